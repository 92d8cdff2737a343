/-
  An executable interpreter over the program's form and what it stands for, part 5.
-/
import Derived.Test.YtcjjlajpbakaoaaGreatDoorVap4
import Derived.ChangeReads
import GoSem.ClaimJoined
import Derived.ChangeShapes
import Derived.ChangeSame

/-
  AN OPEN HEAP: rows of unknown length.
-/
namespace Go.Va

/-- x[:h], of a row. -/
theorem slice_row {P : Program} {lim : Nat} {σ : AS} {T el : TypeId} {i : TypeInfo} {r len cap h : Nat} {k : IntKind} {c : List Value} {rw : Bool} {t0 : Option TypeId} {pv : Option Nat}
    (hT : P.underlying T = some (.slice el)) (hi : P.info? el = some i) (hr : σ.get r = some (.cells c rw (none, t0) pv)) (hh : h ≤ cap) (hc : 0 < cap) :
    sliceA P lim T (.slice (some ⟨r, 0, none⟩) len cap) none (some (.int k (h : Nat))) none σ = some (.slice (some ⟨r, 0, none⟩) h cap, σ) := by
  unfold sliceA
  dsimp only
  unfold sliceOf
  rw [hT]
  dsimp only
  rw [hi]
  dsimp only
  have e1 : asN (none : Option Value) 0 = some 0 := rfl
  have e2 : asN (some (.int k (h : Nat))) len = some h := by rw [asN_int (by omega), Int.toNat_natCast]
  have e3 : asN (none : Option Value) cap = some cap := rfl
  have hx : σ.exact ⟨r, 0, none⟩ cap = true := by
    unfold AS.exact
    rw [hr]
  rw [e1, e2, e3]
  dsimp only
  rw [show Nat.ble 0 h = true from Nat.ble_eq_true_of_le (by omega), show Nat.ble h cap = true from Nat.ble_eq_true_of_le hh, show Nat.ble cap cap = true from Nat.ble_eq_true_of_le (by omega), hr, hx]
  have hb : Nat.beq cap 0 = false := by
    cases e : Nat.beq cap 0
    · rfl
    · have := Nat.eq_of_beq_eq_true e; omega
  simp only [Option.isSome, Option.isNone, Bool.and_true, Bool.or_true, Bool.true_or, cond_true, cond_false, hb, Nat.sub_zero, Nat.zero_mul]
  rw [show (⟨r, 0, none⟩ : Addr).add 0 = ⟨r, 0, none⟩ from rfl]

theorem map_range_const {β : Type} (n : Nat) (x : β) (f : Nat → β) (h : ∀ i, f i = x) : ((Array.range n).map f).toList = List.replicate n x := by
  rw [Array.toList_map]
  refine List.ext_getElem (by simp) fun i h1 h2 => ?_
  simp [h]
/-- make([]T, n), of one-cell elements. -/
theorem makeSlice_of {P : Program} {lim : Nat} {σ : AS} {T el : TypeId} {i : TypeInfo} {n : Nat} {z z0 : Value}
    (hT : P.underlying T = some (.slice el)) (hi : P.info? el = some i) (h1 : i.size = 1) (hb : i.bytes * n ≤ 281474976710656) (hn : n ≤ 1000000000) (hn0 : 0 < n)
    (hz : runA P lim (zeroValue el) (σ) = some (z0, σ)) (hc : z0.cells = #[z]) :
    runA P lim (Instr.makeSlice T (.int .i64 (n : Nat)) (.int .i64 (n : Nat))) σ = some (.slice (some ⟨σ.next, 0, none⟩) n n, σ.push (.cells (List.replicate n z) true (none, some el) none)) := by
  unfold Instr.makeSlice
  rw [runA_bind, runA_underlying, hT]
  dsimp only [Option.map]
  rw [runA_bind, show runA P lim (asInt (.int .i64 (n : Nat))) σ = some ((n : Int), σ) from rfl]
  dsimp only
  rw [runA_bind, show runA P lim (asInt (.int .i64 (n : Nat))) σ = some ((n : Int), σ) from rfl]
  dsimp only
  rw [runA_bind, runA_typeInfo, hi]
  dsimp only [Option.map]
  have hw : IntKind.i64.wrap (n : Int) = n := wrap64 (by omega) (by omega)
  rw [hw]
  have hbi : ((i.bytes : Int) * n) ≤ 281474976710656 := by
    have : ((i.bytes * n : Nat) : Int) ≤ 281474976710656 := by omega
    rw [Int.natCast_mul] at this
    exact this
  have hlt : decide ((n : Int) < 0) = false := decide_eq_false (by omega)
  have hbb : decide (((i.bytes : Int) * n) > 2 ^ 48) = false := decide_eq_false (by
    show ¬ ((i.bytes : Int) * n) > 2 ^ 48
    have : (2 : Int) ^ 48 = 281474976710656 := by decide
    omega)
  have hc0 : (decide ((n : Int) < 0) || decide ((i.bytes : Int) * n > 2 ^ 48) || decide ((n : Int) < 0) || decide ((n : Int) > n)) = false := by
    rw [hlt, hbb]; simp
  rw [if_neg (fun h => by rw [hc0] at h; cases h)]
  have har : runA P lim (askRoom ((n : Int).toNat * i.bytes)) σ = some ((), σ) := by
    unfold askRoom
    split <;> rfl
  rw [runA_bind, har]
  dsimp only
  rw [runA_bind, runA_sizeOf', hi]
  dsimp only [Option.map]
  rw [h1, Nat.mul_one, Int.toNat_natCast, if_neg (by omega)]
  rw [runA_bind, hz]
  dsimp only
  rw [runA_bind, show runA P lim (Pure.pure z0.cells : Sem (Array Value)) σ = some (z0.cells, σ) from rfl]
  dsimp only
  rw [hc]
  have hl := map_range_const n z (fun x => (#[z] : Array Value)[x % (#[z] : Array Value).size]!) fun x => by
    have : x % (#[z] : Array Value).size = 0 := Nat.mod_one x
    rw [this]; rfl
  show some (Value.slice (some ⟨σ.next, 0, none⟩) n n, σ.push (.cells ((Array.range n).map fun x => (#[z] : Array Value)[x % (#[z] : Array Value).size]!).toList true (none, some el) none)) = _
  rw [hl]

end Go.Va

/-
  A VARIABLE THAT READS AS PLAIN DATA holds these cells.
-/
namespace Go.Va

variable {P : Program}
def litCell : DataW Unit → Option Value
  | .lit (.bool b) => some (.bool b)
  | .lit (.int k n) => some (.int k n)
  | .lit (.string l) => some (.string ⟨l.toArray⟩)
  | _ => none
/-- The cells of parts, one behind the other. -/
def flatL (f : TypeId → DataW Unit → Option (List Value)) (P : Program) (total : Nat) : List (TypeId × Nat) → List (DataW Unit) → Nat → Option (List Value)
  | [], [], off => bif Nat.beq off total then some [] else none
  | (t, o) :: ts, d :: ds, off => bif Nat.beq o off then (match f t d, flatL f P total ts ds (off + P.cellsOf t) with
    | some v, some r => some (v ++ r)
    | _, _ => none) else none
  | _, _, _ => none
def flatD (P : Program) : Nat → TypeId → DataW Unit → Option (List Value)
  | 0, _, _ => none
  | n + 1, t, d => match P.underlying t, d with
    | some .bool, d => (litCell d).map fun v => [v]
    | some (.int _), d => (litCell d).map fun v => [v]
    | some .string, d => (litCell d).map fun v => [v]
    | some (.struct fs), .agg ds => flatL (flatD P n) P (P.cellsOf t) (fs.toList.map fun f => (f.type, f.offset)) ds 0
    | some (.array m e), .agg ds => flatL (flatD P n) P (P.cellsOf t) ((List.range m).map fun i => (e, i * P.cellsOf e)) ds 0
    | _, _ => none

theorem flatL_drop {enc : TypeId × Value → Unit} {w : World} {base : Nat} {sp : Nat → Bool} {held : Bool} {fuel total : Nat} {f : TypeId → DataW Unit → Option (List Value)}
    (hf : ∀ t cs d p vs, DataW.trod enc P w base sp held fuel t cs = some (d, p) → f t d = some vs → cs = vs) (cs : List Value) (hl : cs.length = total) :
    ∀ (ts : List (TypeId × Nat)) (xs : List (DataW Unit × List MemPlace)) (off : Nat) (vs : List Value), (ts.mapM fun x => DataW.trod enc P w base sp held fuel x.1 ((cs.drop x.2).take (P.cellsOf x.1))) = some xs → flatL f P total ts (xs.map (·.1)) off = some vs → cs.drop off = vs
  | [], xs, off, vs, h, hv => by
    rw [List.mapM_nil] at h
    cases h
    unfold flatL at hv
    simp only [List.map_nil] at hv
    cases hb : Nat.beq off total with
    | false => rw [hb] at hv; cases hv
    | true =>
      rw [hb, cond_true] at hv
      cases hv
      have := Nat.eq_of_beq_eq_true hb
      exact List.drop_of_length_le (by omega)
  | (t, o) :: ts, xs, off, vs, h, hv => by
    rw [List.mapM_cons] at h
    cases h1 : DataW.trod enc P w base sp held fuel t ((cs.drop o).take (P.cellsOf t)) with
    | none => rw [h1] at h; cases h
    | some y =>
      rw [h1] at h
      cases h2 : (ts.mapM fun x => DataW.trod enc P w base sp held fuel x.1 ((cs.drop x.2).take (P.cellsOf x.1))) with
      | none => rw [h2] at h; cases h
      | some ys =>
        rw [h2] at h
        cases h
        unfold flatL at hv
        simp only [List.map_cons] at hv
        cases hb : Nat.beq o off with
        | false => rw [hb] at hv; cases hv
        | true =>
          rw [hb, cond_true] at hv
          obtain rfl := Nat.eq_of_beq_eq_true hb
          split at hv
          · rename_i v r hv1 hr
            cases hv
            have e1 := hf t _ y.1 y.2 v h1 hv1
            have e2 := flatL_drop hf cs hl ts ys _ r h2 hr
            rw [← e1, ← e2, ← List.drop_drop, List.take_append_drop]
          · cases hv
theorem flatD_cells {enc : TypeId × Value → Unit} {w : World} {base : Nat} {sp : Nat → Bool} {held : Bool} : ∀ (n fuel : Nat) (t : TypeId) (cs : List Value) (d : DataW Unit) (p : List MemPlace) (vs : List Value),
    DataW.trod enc P w base sp held fuel t cs = some (d, p) → flatD P n t d = some vs → cs = vs
  | 0, _, _, _, _, _, _, _, hv => by cases hv
  | n + 1, 0, t, cs, d, p, vs, h, _ => by simp [DataW.trod] at h
  | n + 1, fuel + 1, t, cs, d, p, vs, h, hv => by
    unfold flatD at hv
    split at hv
    · rename_i hu
      simp only [DataW.trod, hu] at h
      split at h <;> first | cases h | skip
      all_goals simp_all [litCell]
    · rename_i k hu
      simp only [DataW.trod, hu] at h
      split at h <;> first | cases h | skip
      all_goals (try split at h) <;> simp_all [litCell]
      obtain ⟨rfl, _⟩ := h
      simp_all [litCell]
    · rename_i hu
      simp only [DataW.trod, hu] at h
      split at h <;> first | cases h | skip
      all_goals (try split at h) <;> simp_all [litCell]
      obtain ⟨rfl, _⟩ := h
      simp_all [litCell]
    · rename_i fs ds hu
      simp only [DataW.trod, hu] at h
      have hl : cs.length = P.cellsOf t := by
        by_cases hl : cs.length = P.cellsOf t
        · exact hl
        · rw [if_neg hl] at h; cases h
      rw [if_pos hl] at h
      obtain ⟨xs, hm, hx⟩ := Option.map_eq_some_iff.1 h
      cases hx
      have hm' : ((fs.toList.map fun f => (f.type, f.offset)).mapM fun x => DataW.trod enc P w base sp held fuel x.1 ((cs.drop x.2).take (P.cellsOf x.1))) = some xs := by
        rw [List.mapM_map]; exact hm
      have := flatL_drop (fun t cs d p vs => flatD_cells n fuel t cs d p vs) cs hl _ xs 0 vs hm' hv
      exact this
    · rename_i m e ds hu
      simp only [DataW.trod, hu] at h
      have hl : cs.length = P.cellsOf t := by
        by_cases hl : cs.length = P.cellsOf t
        · exact hl
        · rw [if_neg hl] at h; cases h
      rw [if_pos hl] at h
      obtain ⟨xs, hm, hx⟩ := Option.map_eq_some_iff.1 h
      cases hx
      have hm' : (((List.range m).map fun i => (e, i * P.cellsOf e)).mapM fun x => DataW.trod enc P w base sp held fuel x.1 ((cs.drop x.2).take (P.cellsOf x.1))) = some xs := by
        rw [List.mapM_map]; exact hm
      have := flatL_drop (fun t cs d p vs => flatD_cells n fuel t cs d p vs) cs hl _ xs 0 vs hm' hv
      exact this
    · cases hv

/-- The cells of the variables that are laid, as far as they are plain. -/
def laidTabs (P : Program) : List (String × DataW Unit) → List (Nat × List Value)
  | [] => []
  | (n, d) :: r => match P.globalNamed n with
    | some g => (match (P.globals[g]?).map (·.type) with
      | some t => (match flatD P 20 t d with
        | some vs => (g, vs) :: laidTabs P r
        | none => laidTabs P r)
      | none => laidTabs P r)
    | none => laidTabs P r
theorem laidTabs_ok {w : World} : ∀ {laid : List (String × DataW Unit)} {ps : List MemPlace}, DataW.LaidVars P w laid ps → ∀ x ∈ laidTabs P laid, ∃ C ty fr, w.heap[x.1]? = some (.cells C ty fr) ∧ (∀ i (_ : i < x.2.length), C[i]? = some x.2[i]) ∧ C.size = x.2.length
  | [], _, _, x, hx => by cases hx
  | (n, d) :: r, ps, h, x, hx => by
    obtain ⟨g, t, cs, fuel, p, q, hg, ht, hv, hd, hr, _⟩ := h
    unfold laidTabs at hx
    rw [hg] at hx
    dsimp only at hx
    rw [ht] at hx
    dsimp only at hx
    split at hx
    · rename_i vs hvs
      rcases List.mem_cons.1 hx with rfl | hx
      · have e := flatD_cells 20 fuel t cs.toList d p vs hd hvs
        unfold World.var? at hv
        rw [hg, Option.bind_some] at hv
        split at hv
        · rename_i C ty fr hh
          cases hv
          subst e
          refine ⟨_, ty, fr, hh, fun i hi => ?_, by simp⟩
          have hi' : i < cs.size := by simpa using hi
          rw [Array.getElem?_eq_getElem hi']
          simp
        · cases hv
      · exact laidTabs_ok hr x hx
    · exact laidTabs_ok hr x hx
theorem laidTabs_met {w : World} {laid : List (String × DataW Unit)} (h : laidMet P laid w) : ∀ x ∈ laidTabs P laid, ∃ C ty fr, w.heap[x.1]? = some (.cells C ty fr) ∧ (∀ i (_ : i < x.2.length), C[i]? = some x.2[i]) ∧ C.size = x.2.length := by
  obtain ⟨ps, h, _⟩ := h
  exact laidTabs_ok h
end Go.Va

/-
  STRUCTS OF NUMBERS as arguments: what is read of them depends on no world.
-/
namespace Go.Va
variable {P : Program} {H : Type}

def kindsL (f : TypeId → Option (List IntKind)) (P : Program) (total : Nat) : List (TypeId × Nat) → Nat → Option (List IntKind)
  | [], off => bif Nat.beq off total then some [] else none
  | (t, o) :: r, off => bif Nat.beq o off then (match f t, kindsL f P total r (off + P.cellsOf t) with
    | some a, some b => some (a ++ b)
    | _, _ => none) else none
/-- The kinds of the cells of a struct of numbers. -/
def kindsD (P : Program) : Nat → TypeId → Option (List IntKind)
  | 0, _ => none
  | n + 1, t => match P.underlying t with
    | some (.int k) => some [k]
    | some (.struct fs) => kindsL (kindsD P n) P (P.cellsOf t) (fs.toList.map fun f => (f.type, f.offset)) 0
    | _ => none
def IsInts : List IntKind → List Value → Prop
  | [], [] => True
  | k :: ks, v :: vs => (∃ n, v = .int k n ∧ (Lit.int k n).wf = true) ∧ IsInts ks vs
  | _, _ => False
theorem IsInts.append : ∀ {a b : List IntKind} {x y : List Value}, IsInts a x → IsInts b y → IsInts (a ++ b) (x ++ y)
  | [], _, [], _, _, h => h
  | _ :: _, _, _ :: _, _, h, k => ⟨h.1, IsInts.append h.2 k⟩
  | [], _, _ :: _, _, h, _ => h.elim
  | _ :: _, _, [], _, h, _ => h.elim

theorem kindsL_drop {enc : TypeId × Value → H} {w : World} {base : Nat} {sp : Nat → Bool} {held : Bool} {fuel total : Nat} {f : TypeId → Option (List IntKind)}
    (hf : ∀ t cs d p ks, DataW.trod enc P w base sp held fuel t cs = some (d, p) → f t = some ks → IsInts ks cs ∧ p = [] ∧ ∀ w' base' sp' held', DataW.trod enc P w' base' sp' held' fuel t cs = some (d, [])) (cs : List Value) (hl : cs.length = total) :
    ∀ (ts : List (TypeId × Nat)) (xs : List (DataW H × List MemPlace)) (off : Nat) (ks : List IntKind), (ts.mapM fun x => DataW.trod enc P w base sp held fuel x.1 ((cs.drop x.2).take (P.cellsOf x.1))) = some xs → kindsL f P total ts off = some ks →
      IsInts ks (cs.drop off) ∧ xs.flatMap (·.2) = [] ∧ ∀ w' base' sp' held', (ts.mapM fun x => DataW.trod enc P w' base' sp' held' fuel x.1 ((cs.drop x.2).take (P.cellsOf x.1))) = some xs
  | [], xs, off, ks, h, hv => by
    rw [List.mapM_nil] at h
    cases h
    unfold kindsL at hv
    cases hb : Nat.beq off total with
    | false => rw [hb] at hv; cases hv
    | true =>
      rw [hb, cond_true] at hv
      cases hv
      have := Nat.eq_of_beq_eq_true hb
      rw [List.drop_of_length_le (by omega)]
      exact ⟨trivial, rfl, fun _ _ _ _ => rfl⟩
  | (t, o) :: ts, xs, off, ks, h, hv => by
    rw [List.mapM_cons] at h
    cases h1 : DataW.trod enc P w base sp held fuel t ((cs.drop o).take (P.cellsOf t)) with
    | none => rw [h1] at h; cases h
    | some y =>
      rw [h1] at h
      cases h2 : (ts.mapM fun x => DataW.trod enc P w base sp held fuel x.1 ((cs.drop x.2).take (P.cellsOf x.1))) with
      | none => rw [h2] at h; cases h
      | some ys =>
        rw [h2] at h
        cases h
        unfold kindsL at hv
        cases hb : Nat.beq o off with
        | false => rw [hb] at hv; cases hv
        | true =>
          rw [hb, cond_true] at hv
          obtain rfl := Nat.eq_of_beq_eq_true hb
          split at hv
          · rename_i a b ha hr
            cases hv
            obtain ⟨e1, e2, e3⟩ := hf t _ y.1 y.2 a h1 ha
            obtain ⟨g1, g2, g3⟩ := kindsL_drop hf cs hl ts ys _ b h2 hr
            refine ⟨?_, ?_, fun w' base' sp' held' => ?_⟩
            · rw [← List.drop_drop] at g1
              have := e1.append g1
              rwa [List.take_append_drop] at this
            · rw [List.flatMap_cons, e2, g2]; rfl
            · rw [List.mapM_cons, e3, g3]
              rw [show ((y.1, ([] : List MemPlace)) : DataW H × List MemPlace) = y by rw [← e2]]
              rfl
          · cases hv

theorem kindsD_trod {enc : TypeId × Value → H} {w : World} {base : Nat} {sp : Nat → Bool} {held : Bool} : ∀ (n fuel : Nat) (t : TypeId) (cs : List Value) (d : DataW H) (p : List MemPlace) (ks : List IntKind),
    DataW.trod enc P w base sp held fuel t cs = some (d, p) → kindsD P n t = some ks → IsInts ks cs ∧ p = [] ∧ ∀ w' base' sp' held', DataW.trod enc P w' base' sp' held' fuel t cs = some (d, [])
  | 0, _, _, _, _, _, _, _, hv => by cases hv
  | n + 1, 0, t, cs, d, p, ks, h, _ => by simp [DataW.trod] at h
  | n + 1, fuel + 1, t, cs, d, p, ks, h, hv => by
    unfold kindsD at hv
    split at hv
    · rename_i k hu
      cases hv
      obtain ⟨z, hz, hx, hw⟩ := DataW.trod_int hu h
      subst hz
      cases hx
      exact ⟨⟨⟨z, rfl, hw⟩, trivial⟩, rfl, fun w' base' sp' held' => by simp [DataW.trod, hu, hw]⟩
    · rename_i fs hu
      simp only [DataW.trod, hu] at h
      have hl : cs.length = P.cellsOf t := by
        by_cases hl : cs.length = P.cellsOf t
        · exact hl
        · rw [if_neg hl] at h; cases h
      rw [if_pos hl] at h
      obtain ⟨xs, hm, hx⟩ := Option.map_eq_some_iff.1 h
      cases hx
      have hm' : ((fs.toList.map fun f => (f.type, f.offset)).mapM fun x => DataW.trod enc P w base sp held fuel x.1 ((cs.drop x.2).take (P.cellsOf x.1))) = some xs := by
        rw [List.mapM_map]; exact hm
      obtain ⟨g1, g2, g3⟩ := kindsL_drop (fun t cs d p ks => kindsD_trod n fuel t cs d p ks) cs hl _ xs 0 ks hm' hv
      refine ⟨g1, g2, fun w' base' sp' held' => ?_⟩
      simp only [DataW.trod, hu]
      rw [if_pos hl]
      have := g3 w' base' sp' held'
      rw [List.mapM_map] at this
      rw [show (fs.toList.mapM fun f => DataW.trod enc P w' base' sp' held' fuel f.type ((cs.drop f.offset).take (P.cellsOf f.type))) = some xs from this]
      show some (DataW.agg (xs.map (·.1)), xs.flatMap (·.2)) = _
      rw [g2]
    · cases hv

/-- A struct of numbers: its cells; it is read alike in each world. -/
theorem open_kinds {enc : TypeId × Value → H} {w : World} {base : Nat} {sp : Nat → Bool} {held : Bool} {r : Reach} {b0 : Nat} {t : TypeId} {v : Value} {d : DataW H} {ps : List MemPlace} {fs : Array Field} {ks : List IntKind} (n : Nat)
    (ht : P.underlying t = some (.struct fs)) (hk : kindsD P n t = some ks) (hval : Value.okWide P w r b0 t v) (hd : DataW.Trod enc P w base sp held t v d ps) :
    ∃ cs : List Value, v = .agg ⟨cs⟩ ∧ IsInts ks cs ∧ ps = [] ∧ ∀ w' base' sp' held', DataW.Trod enc P w' base' sp' held' t v d [] := by
  obtain ⟨cs, rfl, _⟩ := WideShapes.okWide_struct ht hval
  obtain ⟨fuel, hf⟩ := hd
  obtain ⟨h1, h2, h3⟩ := kindsD_trod n fuel t _ d ps ks hf hk
  exact ⟨cs.toList, rfl, h1, h2, fun w' base' sp' held' => ⟨fuel, h3 w' base' sp' held'⟩⟩
end Go.Va

/-
  A ROW's POSTCONDITION out of 'of what was there nothing has turned'.
-/
namespace Go.Va
open Go.RowKit Go.ChangeShapes Go.WideShapes

variable {H : Type} {enc : TypeId × Value → H} {P : Program}

theorem post_below {f : Func} {s : ChangeSpec} {apart fresh handsOn : Bool} {W W' : World} {args : Array Value} {v : Value} {ds gs : List (DataW H)} {before pa pv : List MemPlace}
    (hW : DataW.Whole enc P f.params.toList s.vars apart W args.toList ds gs before)
    (hres : ∀ (b : Nat) (sp : Nat → Bool) (hd : Bool), DataW.TrodAll enc P W' b sp hd f.resultTypes.toList (v.resultList f.resultTypes.size) (s.fn H (ds ++ gs)).results [])
    (hargs : ∀ sp : Nat → Bool, (∀ p ∈ before, sp p.block = true) → DataW.TrodAll enc P W' 0 sp true f.params.toList args.toList (s.fn H (ds ++ gs)).args pa)
    (hvars : ∀ sp : Nat → Bool, (∀ p ∈ before, sp p.block = true) → DataW.TrodVars enc P W' sp s.vars (s.fn H (ds ++ gs)).vars pv)
    (hb : Below W.heap.size W W') : s.post enc P f apart fresh handsOn false W args v W' := by
  have hold : ∀ p ∈ before, (fun b => decide (b < W.heap.size)) p.block = true := fun p hp => by simpa using hW.lt p hp
  exact ⟨ds, gs, before, [], pa, pv, hW, hres _ _ _, hargs _ hold, hvars _ hold, hb.frame _, fun h => by cases h⟩

end Go.Va
