/-
  THE ABSTRACT HEAP IS CHOSEN ANEW: what a heap is known to hold may be named by other numbers, and what is no longer of use left out.
-/
import Derived.Test.YtakchekhpeokjaaDoorVaH5
namespace Go.Va
open Go.RowKit

/-- New numbers: below 'n' each is that of an old place; all the old ones are found again from 'M' on. -/
structure Reb where
  src : Nat → Nat
  n : Nat
  M : Nat
  le : n ≤ M

def Reb.app (s : Reb) (β : Inj) : Inj := fun j => if j < s.n then β (s.src j) else if s.M ≤ j then β (j - s.M) else none

theorem Reb.app_low (s : Reb) (β : Inj) {j : Nat} (h : j < s.n) : s.app β j = β (s.src j) := by unfold Reb.app; rw [if_pos h]
theorem Reb.app_shift (s : Reb) (β : Inj) (i : Nat) : s.app β (s.M + i) = β i := by
  have := s.le
  unfold Reb.app; rw [if_neg (by omega), if_pos (by omega)]; congr 1; omega
theorem Reb.app_gap (s : Reb) (β : Inj) {j : Nat} (h1 : s.n ≤ j) (h2 : j < s.M) : s.app β j = none := by
  unfold Reb.app; rw [if_neg (by omega), if_neg (by omega)]

/-- A value under its new name. -/
def ValRen (s : Reb) (v u : Value) : Prop := ∀ β v', vRel β v v' → vRel (s.app β) u v'

theorem ValRen.bool (s : Reb) (b : Bool) : ValRen s (.bool b) (.bool b) := fun β v' h => by cases h; exact .bool b
theorem ValRen.int (s : Reb) (k : IntKind) (n : Int) : ValRen s (.int k n) (.int k n) := fun β v' h => by cases h; exact .int k n
theorem ValRen.string (s : Reb) (b : ByteArray) : ValRen s (.string b) (.string b) := fun β v' h => by cases h; exact .string b
theorem ValRen.nilSlice (s : Reb) (l c : Nat) : ValRen s (.slice none l c) (.slice none l c) := fun β v' h => by cases h; exact .sliceNone l c
theorem ValRen.nilPtr (s : Reb) : ValRen s (.pointer none) (.pointer none) := fun β v' h => by cases h; exact .ptrNone
theorem ValRen.nilFunc (s : Reb) : ValRen s .nilFunc .nilFunc := fun β v' h => by cases h; exact .nilFunc
theorem ValRen.nilIface (s : Reb) : ValRen s .nilIface .nilIface := fun β v' h => by cases h; exact .nilIface
theorem ValRen.plain (s : Reb) {v : Value} (h : plainB 100 v = true) : ValRen s v v := fun β v' hv => by
  rw [plain_eq 100 v v' h hv]; exact plain_rel 100 v h

theorem aRel.ren {s : Reb} {β : Inj} {i o j : Nat} {a' : Addr} (hj : s.app β j = β i) (h : aRel β ⟨i, o, none⟩ a') : aRel (s.app β) ⟨j, o, none⟩ a' := by
  obtain ⟨h0, e, he, ha⟩ := h
  exact ⟨rfl, e, by rw [hj]; exact he, ha⟩
theorem capRel.ren {s : Reb} {β : Inj} {a b : Addr} {c c' : Nat} (hj : s.app β b.block = β a.block) (ho : b.off = a.off) (h : capRel β a c c') : capRel (s.app β) b c c' := by
  rcases h with h | ⟨e, sz, esz, real, he, h1, h2, h3, h4⟩
  · exact .inl h
  · exact .inr ⟨e, sz, esz, real, by rw [hj]; exact he, h1, by rw [ho]; exact h2, by rw [ho]; exact h3, h4⟩

theorem ValRen.ptr (s : Reb) {i j o : Nat} (hj : j < s.n) (hs : s.src j = i) : ValRen s (.pointer (some ⟨i, o, none⟩)) (.pointer (some ⟨j, o, none⟩)) := fun β v' h => by
  cases h with
  | ptr ha => exact .ptr (ha.ren (by rw [s.app_low β hj, hs]))
theorem ValRen.slice (s : Reb) {i j o l c : Nat} (hj : j < s.n) (hs : s.src j = i) : ValRen s (.slice (some ⟨i, o, none⟩) l c) (.slice (some ⟨j, o, none⟩) l c) := fun β v' h => by
  have e : s.app β j = β i := by rw [s.app_low β hj, hs]
  cases h with
  | slice _ ha hc => exact .slice l (ha.ren e) (hc.ren (a := ⟨i, o, none⟩) (b := ⟨j, o, none⟩) e rfl)
  | void a' c' h => cases h

theorem arr_choose {β : Inj} {f' : Array Value} {n : Nat} (hn : n = f'.size) (h : ∀ i, i < n → ∀ h' : i < f'.size, ∃ u, vRel β u f'[i]) :
    ∃ g : Array Value, g.size = f'.size ∧ ∀ i (_ : i < g.size) (h' : i < f'.size), vRel β g[i] f'[i] := by
  classical
  refine ⟨Array.ofFn (n := f'.size) fun i => (h i.1 (by omega) i.2).choose, by simp, fun i h1 h' => ?_⟩
  rw [Array.getElem_ofFn]
  exact (h i (by omega) h').choose_spec

/-- Every value has a name of the new sort. -/
theorem vRel.shift (s : Reb) {β : Inj} {v v' : Value} (h : vRel β v v') : ∃ u, vRel (s.app β) u v' := by
  induction h with
  | bool b => exact ⟨_, .bool b⟩
  | int k n => exact ⟨_, .int k n⟩
  | float k n => exact ⟨_, .float k n⟩
  | complex k n m => exact ⟨_, .complex k n m⟩
  | string b => exact ⟨_, .string b⟩
  | ptrNone => exact ⟨_, .ptrNone⟩
  | @ptr a a' ha =>
    obtain ⟨h0, e, he, h1⟩ := ha
    exact ⟨.pointer (some ⟨s.M + a.block, a.off, none⟩), .ptr ⟨rfl, e, by rw [s.app_shift]; exact he, h1⟩⟩
  | sliceNone l c => exact ⟨_, .sliceNone l c⟩
  | @slice a a' c c' l ha hc =>
    obtain ⟨h0, e, he, h1⟩ := ha
    exact ⟨.slice (some ⟨s.M + a.block, a.off, none⟩) l c, .slice l ⟨rfl, e, by rw [s.app_shift]; exact he, h1⟩ (hc.ren (b := ⟨s.M + a.block, a.off, none⟩) (s.app_shift β _) rfl)⟩
  | void a' c' h => exact ⟨_, .void a' c' h⟩
  | mapNone => exact ⟨_, .mapNone⟩
  | chanNone => exact ⟨_, .chanNone⟩
  | @map r e h h0 => exact ⟨.map (some (s.M + r)), .map (by rw [s.app_shift]; exact h) h0⟩
  | @func fn fn' f f' c c' hfn hf _ hc _ ih1 ih2 =>
    obtain ⟨g1, hg1, hg1'⟩ := arr_choose hf fun i hi h' => ih1 i hi h'
    obtain ⟨g2, hg2, hg2'⟩ := arr_choose hc fun i hi h' => ih2 i hi h'
    have : ∃ fn1, fnRel (s.app β) fn1 fn' := by
      cases fn with
      | yield l => obtain ⟨e, he, h1⟩ := hfn; exact ⟨.yield (s.M + l), e, by rw [s.app_shift]; exact he, h1⟩
      | func f => exact ⟨.func f, hfn⟩
      | method n => exact ⟨.method n, hfn⟩
      | methodOf t n => exact ⟨.methodOf t n, hfn⟩
      | via t p f q => exact ⟨.via t p f q, hfn⟩
    obtain ⟨fn1, hfn1⟩ := this
    exact ⟨.func fn1 g1 g2, .func hfn1 hg1 hg1' hg2 hg2'⟩
  | nilFunc => exact ⟨_, .nilFunc⟩
  | iface t _ ih => obtain ⟨u, hu⟩ := ih; exact ⟨.iface t u, .iface t hu⟩
  | nilIface => exact ⟨_, .nilIface⟩
  | @agg f f' hf _ ih =>
    obtain ⟨g1, hg1, hg1'⟩ := arr_choose hf fun i hi h' => ih i hi h'
    exact ⟨.agg g1, .agg hg1 hg1'⟩
  | @tuple f f' hf _ ih =>
    obtain ⟨g1, hg1, hg1'⟩ := arr_choose hf fun i hi h' => ih i hi h'
    exact ⟨.tuple g1, .tuple hg1 hg1'⟩

/-- An object under its new name. -/
inductive ObjRen (s : Reb) : AObj → AObj → Prop where
  | cells {c d : List Value} {rw rw' : Bool} {lo : Lo} {pv pv' : Option Nat} (hl : c.length = d.length) (hv : ∀ k (h : k < c.length) (h' : k < d.length), ValRen s c[k] d[k]) (hw : rw' = true → rw = true) :
      ObjRen s (.cells c rw lo pv) (.cells d rw' lo pv')
  | obj {o p : Obj} (h : ∀ β o', oRel β o o' → oRel (s.app β) p o') (hp : ∀ r, p ≠ .loop r) : ObjRen s (.obj o) (.obj p)

theorem ObjRen.own {s : Reb} {y x : AObj} (h : ObjRen s y x) (hx : x.own = true) : y.own = true := by
  cases h with
  | cells _ _ hw => exact hw hx
  | obj => rfl

theorem R.rebase {K : FuncId → Code → Prop} {W0 : World} {N0 : Nat} {β : Inj} {τ : AS} {w : World} (hR : R K W0 N0 β τ w) (s : Reb) {σ : AS} (hb : ∀ j, s.n ≤ j → σ.get j = none)
    (ho : ∀ j x, j < s.n → σ.get j = some x → ∃ y, τ.get (s.src j) = some y ∧ ObjRen s y x)
    (he : ∀ i j x z y, i < s.n → j < s.n → i ≠ j → σ.get i = some x → σ.get j = some z → x.own = true → τ.get (s.src i) = some y → s.src i ≠ s.src j ∧ (prevOf y = some (s.src j) → prevOf x = some j)) : R K W0 N0 (s.app β) σ w := by
  have lt : ∀ {j x}, σ.get j = some x → j < s.n := by
    intro j x h
    apply Classical.byContradiction
    intro hn
    rw [hb j (by omega)] at h
    cases h
  refine
  { cells := fun {id e c rw lo pv} hbe hg => ?_
    obj := fun {id e o} hbe hg => ?_
    excl := fun {i j ei ej x z} hij hbi hbj hgi hgj hown heq => ?_
    lt := fun {id e} hbe => ?_
    base := hR.base
    top := hR.top
    code := fun {id e r} hbe hg => ?_ }
  · have hlt := lt hg
    rw [s.app_low β hlt] at hbe
    obtain ⟨y, hy, hren⟩ := ho _ _ hlt hg
    cases hren with
    | @cells c0 _ rw0 _ _ pv0 _ hl hv hw =>
      obtain ⟨C, ty, fr, h1, h2, h3, h4⟩ := hR.cells hbe hy
      refine ⟨C, ty, fr, h1, fun i hi => ?_, fun h => h3 (hw h), by rw [← hl]; exact h4⟩
      obtain ⟨v', h5, h6⟩ := h2 i (by omega)
      exact ⟨v', h5, hv i (by omega) hi β v' h6⟩
  · have hlt := lt hg
    rw [s.app_low β hlt] at hbe
    obtain ⟨y, hy, hren⟩ := ho _ _ hlt hg
    cases hren with
    | obj h _ =>
      obtain ⟨h1, h2, o', h3, h4⟩ := hR.obj hbe hy
      exact ⟨h1, h2, o', h3, h _ _ h4⟩
  · have hlti := lt hgi
    have hltj := lt hgj
    rw [s.app_low β hlti] at hbi
    rw [s.app_low β hltj] at hbj
    obtain ⟨y, hy, hren⟩ := ho _ _ hlti hgi
    obtain ⟨u, hu, _⟩ := ho _ _ hltj hgj
    obtain ⟨h1, h2⟩ := he i j x z y hlti hltj hij hgi hgj hown hy
    exact h2 (hR.excl h1 hbi hbj hy hu (hren.own hown) heq)
  · unfold Reb.app at hbe
    split at hbe
    · exact hR.lt hbe
    · split at hbe
      · exact hR.lt hbe
      · cases hbe
  · have hlt := lt hg
    obtain ⟨y, hy, hren⟩ := ho _ _ hlt hg
    cases hren with
    | obj _ hp => exact absurd rfl (hp r)

theorem lRel_rebase (s : Reb) {β : Inj} {t : List Value} {tr : List Value} (h : lRel β t tr) (m : Nat) (hm : t.length = m) (fx : List (Nat × Value)) (hf : ∀ x ∈ fx, ∃ u, t[x.1]? = some u ∧ ValRen s u x.2) :
    ∃ w, lRel (s.app β) (fillT m fx w) tr := by
  classical
  have hlen : t.length = tr.length := h.length
  have hsh : ∀ j, ∃ u, ∀ (h2 : j < tr.length), vRel (s.app β) u tr[j] := by
    intro j
    by_cases h2 : j < tr.length
    · obtain ⟨u, hu⟩ := (h.get j (by omega) h2).shift s
      exact ⟨u, fun _ => hu⟩
    · exact ⟨undef, fun h => absurd h h2⟩
  refine ⟨fun j => (hsh j).choose, lRel.of_get (by simp [fillT]; omega) fun i hi hi' => ?_⟩
  simp only [fillT, List.getElem_map, List.getElem_range]
  have look_spec : ∀ (l : List (Nat × Value)) (d : Value), (∀ x ∈ l, ∃ u, t[x.1]? = some u ∧ ValRen s u x.2) → vRel (s.app β) d tr[i] → vRel (s.app β) (look l i d) tr[i] := by
    intro l
    induction l with
    | nil => intro d _ hd; exact hd
    | cons x l ih =>
      intro d hx hd
      obtain ⟨k, v⟩ := x
      simp only [look]
      cases hb : Nat.beq k i with
      | true =>
        have : k = i := Nat.eq_of_beq_eq_true hb
        subst this
        obtain ⟨u, hu, hr⟩ := hx _ (List.mem_cons_self ..)
        have hlt : k < t.length := by omega
        rw [List.getElem?_eq_getElem hlt] at hu
        cases hu
        exact hr _ _ (h.get k hlt hi')
      | false => exact ih d (fun y hy => hx y (List.mem_cons_of_mem _ hy)) hd
  exact look_spec fx _ hf ((hsh i).choose_spec hi')

end Go.Va
