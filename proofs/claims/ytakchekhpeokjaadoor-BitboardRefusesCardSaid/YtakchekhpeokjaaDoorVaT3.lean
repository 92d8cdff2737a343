/-
  A CALL out of what is known of its body; what a function leaves is taken over by the caller.
-/
import Derived.Test.YtakchekhpeokjaaDoorVaT2
namespace Go.Va
open Go.RowKit
section
variable {P : Program} {G : Nat} {E : Env} {W0 : World} {N0 : Nat}

/-- What a body must come to. -/
def Ends (P : Program) (lim : Nat) (fd : Func) (QV : Value → AS → Prop) : Aft := fun e t1 ds1 σ1 =>
  (e = .normal ∨ e = .ret) ∧ ∃ σ2, takeA P lim ds1 σ1 = some σ2 ∧ ∃ v, runA P lim (results fd t1.toArray) σ2 = some (v, σ2) ∧ QV v σ2

theorem Tri.call {M : Nat} (lim : Nat) (hFn : FnOk P G E) {f : FuncId} {fd : Func} {c : Code} (hok : E.ok f = true) (hfn : P.funcs[f]? = some fd) (hbody : fd.body = some c) {args : List Value} {args' : Array Value} {β : Inj} {τ σ : AS} {w : World} {QV : Value → AS → Prop}
    (hH : Hold G E W0 N0 M β τ σ w) (ha : lRel β args args'.toList) (hT : Tri P G E W0 N0 M f c (args ++ List.replicate (fd.ntmps - args.length) undef) [] σ (Ends P lim fd QV)) :
    Lands P (callFunc f args') w fun v' w' => ∃ v σ3 β' τ', QV v σ3 ∧ R (CodeK G E) W0 N0 β' τ' w' ∧ σ3.Wf ∧ σ3.Like τ' ∧ vRel β' v v' := by
  obtain ⟨hcode, hname⟩ := hFn f fd c hok hfn hbody
  have hcall : (callFunc f args').run P w = .ok (.enter f args') w := by
    unfold callFunc
    rw [run_bind']
    show (match P.funcs[f]? with | none => _ | some fn => _ : Sem Next).run P w = _
    rw [hfn]
    simp only [hname, Bool.false_eq_true, if_false, hbody, Option.isNone_some]
    rfl
  refine .enter hcall fun cs => ?_
  have hlen : args'.size = args.length := by have := ha.length; simpa using this.symm
  have htm : lRel β (args ++ List.replicate (fd.ntmps - args.length) undef) (args' ++ Array.replicate (fd.ntmps - args'.size) undef).toList := by
    rw [Array.toList_append, Array.toList_replicate, hlen]
    exact ha.append (.replicate rel_undef _)
  have hent : Frame.enter P f args' .normal = Fr (Frame.enter P f args' .normal) (args' ++ Array.replicate (fd.ntmps - args'.size) undef) [] [.code c] := by
    simp only [Frame.enter, Fr, hfn, hbody, Option.map_some, Option.getD_some, Option.bind_some]
  obtain ⟨e, t1, ds1, σ1, β1, τ1, w1, tr1, dr1, k', ⟨he, σ2, h2, v, h3, hv⟩, H1, ht1, hd1, hk1, s1⟩ := hT β τ w _ [] (Frame.enter P f args' .normal) hH htm trivial rfl rfl _ (.inl rfl) [] cs
  rw [← hent] at s1
  have hleave : Steps P (lone (Fr (Frame.enter P f args' .normal) tr1 dr1 k') cs w1) (lone { Fr (Frame.enter P f args' .normal) tr1 dr1 k' with mode := .returning } cs w1) := by
    rcases he with rfl | rfl
    · have : k' = [] := hk1
      subst this
      exact .one (st_leave rfl)
    · obtain ⟨pre, rfl⟩ := hk1
      exact .one (st_ret rfl)
  obtain ⟨k2, hn2⟩ := kept_take ds1 h2 H1.wf
  have hw2 := k2.wf H1.wf
  obtain ⟨w2, τ2, l2, R2, _, _, s2⟩ := takes (cs := cs) ds1 dr1 σ1 σ2 τ1 β1 w1 { Fr (Frame.enter P f args' .normal) tr1 dr1 k' with mode := .returning } h2 hd1 H1.wf H1.like H1.rel rfl rfl
  obtain ⟨v', w3, β3, τ3, er, x3, l3, R3, hb3, hvr⟩ := (sim_results (P := P) (K := CodeK G E) (W0 := W0) (N0 := N0) (fn := fd) (t := t1.toArray) (t' := tr1) (arrRel_iff.2 (by simpa using ht1))).at hw2 l2.like R2 h3 (fun i h h' => by omega)
  have hww : w3 = w2 := RO.results fd tr1 w2 v' w3 er
  subst hww
  subst hb3
  exact ⟨.returned v', w3, _, ⟨v', rfl, v, σ2, β3, τ3, hv, R3, hw2, l3.like, hvr⟩, s1.trans (hleave.trans s2), rfl, ⟨rfl, rfl, rfl, fd, hfn, er⟩⟩


/-- A heap of rows that may only be read: whatever was before does not matter. -/
theorem R.seal {K K' : FuncId → Code → Prop} {β : Inj} {σ : AS} {w : World} (hR : R K W0 N0 β σ w) (ho : ∀ id x, σ.get id = some x → x.own = false) : R K' w w.heap.size β σ w :=
  { cells := fun {id e c rw lo pv} hb hg => by
      obtain ⟨C, ty, fr, h1, h2, h3, h4⟩ := hR.cells hb hg
      have := ho _ _ hg
      exact ⟨C, ty, fr, h1, h2, fun h => (by subst h; cases this), h4⟩
    obj := fun {id e o} hb hg => by have := ho _ _ hg; cases this
    excl := fun {i j ei ej x y} hij hbi hbj hgi hgj hx heq => by rw [ho _ _ hgi] at hx; cases hx
    lt := hR.lt
    base := .refl _ _
    top := Nat.le_refl _
    code := fun {id e r} hb hg => by have := ho _ _ hg; cases this }

/-- A row that lies in the heap is taken over. -/
theorem R.adopt {K : FuncId → Code → Prop} {β : Inj} {τ : AS} {w : World} (hR : R K W0 N0 β τ w) (hf : β τ.next = none) {e : Ent} (hb : ∀ id e', β id = some e' → e'.b < e.b) (hlt : e.b < w.heap.size) (hN : N0 ≤ e.b) {xs : List Value} {lo : Lo}
    (hx : ∃ C ty fr, w.heap[e.b]? = some (.cells C ty fr) ∧ (∀ i (_ : i < xs.length), ∃ v', C[e.o + i]? = some v' ∧ vRel β xs[i] v') ∧ (∀ i, i < C.size → ¬ (fr.1 ≤ i ∧ i < fr.2)) ∧ TlOk e lo xs.length ty C.size) :
    R K W0 N0 (fun i => if i = τ.next then some e else β i) (τ.push (.cells xs true lo none)) w ∧ β.le (fun i => if i = τ.next then some e else β i) := by
  have hle : β.le (fun i => if i = τ.next then some e else β i) := by
    intro i e' h
    simp only []
    rw [if_neg (by rintro rfl; rw [hf] at h; cases h)]; exact h
  refine ⟨?_, hle⟩
  constructor
  · intro id e' c rw' lo' pv hbi hg
    rw [AS.get_push] at hg
    by_cases hid : id = τ.next
    · rw [if_pos hid] at hbi hg
      simp only [Option.some.injEq] at hbi hg
      subst hbi
      cases hg
      obtain ⟨C, ty, fr, h0, h1, h2, h3⟩ := hx
      refine ⟨C, ty, fr, h0, fun i hi => ?_, fun _ => ⟨hN, h2⟩, h3⟩
      obtain ⟨v', k1, k2⟩ := h1 i hi
      exact ⟨v', k1, k2.mono hle⟩
    · rw [if_neg hid] at hbi hg
      obtain ⟨C, ty, fr, k1, k2, k3, k4⟩ := hR.cells hbi hg
      refine ⟨C, ty, fr, k1, fun i hi => ?_, k3, k4⟩
      obtain ⟨v', m1, m2⟩ := k2 i hi
      exact ⟨v', m1, m2.mono hle⟩
  · intro id e' o hbi hg
    rw [AS.get_push] at hg
    by_cases hid : id = τ.next
    · rw [if_pos hid] at hg; cases hg
    · rw [if_neg hid] at hbi hg
      obtain ⟨k1, k2, o'', k3, k4⟩ := hR.obj hbi hg
      exact ⟨k1, k2, o'', k3, k4.mono hle⟩
  · intro i j ei ej y z hij hbi hbj hgi hgj hy heq
    rw [AS.get_push] at hgi hgj
    by_cases hi : i = τ.next
    · rw [if_pos hi] at hbi
      rw [if_neg (by omega)] at hbj
      simp only [Option.some.injEq] at hbi
      subst hbi
      have := hb _ _ hbj; omega
    · rw [if_neg hi] at hbi hgi
      by_cases hj : j = τ.next
      · rw [if_pos hj] at hbj
        simp only [Option.some.injEq] at hbj
        subst hbj
        have := hb _ _ hbi; omega
      · rw [if_neg hj] at hbj hgj
        exact hR.excl hij hbi hbj hgi hgj hy heq
  · intro id e' hbi
    by_cases hid : id = τ.next
    · rw [if_pos hid] at hbi; simp only [Option.some.injEq] at hbi; subst hbi; exact hlt
    · rw [if_neg hid] at hbi; exact hR.lt hbi
  · exact hR.base
  · exact hR.top
  · intro id e' r hbi hg
    rw [AS.get_push] at hg
    by_cases hid : id = τ.next
    · rw [if_pos hid] at hg; cases hg
    · rw [if_neg hid] at hg hbi; exact hR.code hbi hg

/-- One function is rightly replaced. -/
def OvOne (P : Program) (G : Nat) (f : FuncId) (ov : List Value → Nat → AS → Option (Value × AS)) : Prop :=
  ∀ K W0 N0 args lim σ v σ', ov args lim σ = some (v, σ') → ∀ β τ w (args' : Array Value), Tabs G [] w → σ.Wf → σ.Like τ → R K W0 N0 β τ w → Fresh β σ σ' → GlobOk G β → lRel β args args'.toList →
  Lands P (callFunc f args') w (Post K W0 N0 β σ σ' τ v)

/-- WHAT A FUNCTION OF PLAIN VALUES DOES THAT MAKES A ROW: nothing that was there has turned; its answer, in which the row has the number r; what the row holds. -/
def RowFn (P : Program) (G : Nat) (f : FuncId) (args : List Value) (mk : Nat → Value) (xs : List Value) (lo : Lo) : Prop :=
  ∀ w, Tabs G [] w → Lands P (callFunc f args.toArray) w fun v' w' => Below w.heap.size w w' ∧ ∃ e : Ent, w.heap.size ≤ e.b ∧
    (∀ (β : Inj) r, β r = some e → vRel β (mk r) v') ∧
    ∃ C ty fr, w'.heap[e.b]? = some (.cells C ty fr) ∧ (∀ i (_ : i < xs.length), C[e.o + i]? = some xs[i]) ∧ (∀ i, i < C.size → ¬ (fr.1 ≤ i ∧ i < fr.2)) ∧ TlOk e lo xs.length ty C.size

theorem RowFn.ov {f : FuncId} {args : List Value} {mk : Nat → Value} {xs : List Value} {lo : Lo} (h : RowFn P G f args mk xs lo) (hp : args.all (plainB 100) = true) (hx : xs.all (plainB 100) = true) {K : FuncId → Code → Prop} {β : Inj} {σ τ : AS} {w : World} {args' : Array Value}
    (hT : Tabs G [] w) (hl : σ.Like τ) (hR : R K W0 N0 β τ w) (hf : β σ.next = none) (ha : lRel β args args'.toList) :
    Lands P (callFunc f args') w (Post K W0 N0 β σ (σ.push (.cells xs true lo none)) τ (mk σ.next)) := by
  have ea : args' = args.toArray := by
    have := plain_lRel_eq args args'.toList hp ha
    rw [← this]
  subst ea
  refine (h w hT).mono fun v' w' hh => ?_
  obtain ⟨hb, e, he, hv, C, ty, fr, h1, h2, h3, h4⟩ := hh
  have hR' := hR.below hb
  have hlt : e.b < w'.heap.size := by
    rw [Array.getElem?_eq_some_iff] at h1; exact h1.1
  obtain ⟨hA, hle⟩ := hR'.adopt (by rw [hl.1]; exact hf) (e := e) (fun id e' hbi => by have := hR.lt hbi; omega) hlt (by have := hR.top; omega) (xs := xs) (lo := lo) ⟨C, ty, fr, h1, fun i hi => ⟨_, h2 i hi, plain_rel 100 _ (List.all_eq_true.1 hx _ (by simp))⟩, h3, h4⟩
  have hnx : τ.next = σ.next := hl.1
  refine ⟨_, τ.push (.cells xs true lo none), ⟨hle, fun i e' h' => ?_⟩, ⟨by simp [hnx], fun id hid => ?_, fun id hid => ?_⟩, hA, hv _ _ (by rw [hnx, if_pos rfl])⟩
  · replace h' : (if i = τ.next then some e else β i) = some e' := h'
    split at h'
    · rename_i hi
      exact .inr ⟨by omega, by rw [AS.next_push]; omega⟩
    · exact .inl h'
  · rw [AS.get_push, AS.get_push, hnx]
    simp only [AS.next_push] at hid
    split
    · rfl
    · exact hl.2 _ (by omega)
  · simp only [AS.next_push] at hid
    rw [AS.get_push, if_neg (by omega)]


/-- An answer in which a row has a number: the number may be another one. -/
def MkOk (mk : Nat → Value) : Prop := ∀ (β : Inj) r v', vRel β (mk r) v' → ∃ e, β r = some e ∧ ∀ (β2 : Inj) r2, β2 r2 = some e → vRel β2 (mk r2) v'

theorem mk_slice (n c : Nat) : MkOk fun r => .slice (some ⟨r, 0, none⟩) n c := by
  intro β r v' h
  cases h with
  | slice _ ha hc =>
    obtain ⟨h0, e, he, h1⟩ := ha
    refine ⟨e, he, fun β2 r2 h2 => .slice n ⟨rfl, e, h2, h1⟩ ?_⟩
    rcases hc with hc | ⟨e', sz, esz, real, hb, hc⟩
    · exact .inl hc
    · rw [he] at hb; cases hb
      exact .inr ⟨e, sz, esz, real, h2, hc⟩
  | void _ _ h => cases h

theorem mk_slice_int (n c : Nat) (k : IntKind) (x : Int) : MkOk fun r => .tuple #[.slice (some ⟨r, 0, none⟩) n c, .int k x] := by
  intro β r v' h
  cases h with
  | @tuple f f' hf hf' =>
    have h0 := hf' 0 (by simp) (by rw [← hf]; simp)
    have h1 := hf' 1 (by simp) (by rw [← hf]; simp)
    obtain ⟨e, he, hk⟩ := mk_slice n c β r _ h0
    refine ⟨e, he, fun β2 r2 h2 => .tuple hf fun i hi hi' => ?_⟩
    match i, hi with
    | 0, _ => exact hk β2 r2 h2
    | 1, _ =>
      have : f'[1]'hi' = .int k x := by
        have h1' : vRel β (.int k x) (f'[1]'hi') := h1
        generalize f'[1]'hi' = u at h1'
        cases h1'; rfl
      rw [this]; exact .int k x

theorem RowFn.of_tri {M : Nat} (hFn : FnOk P G E) {f : FuncId} {fd : Func} {c : Code} (hok : E.ok f = true) (hfn : P.funcs[f]? = some fd) (hbody : fd.body = some c) {args : List Value} (ha : args.all (plainB 100) = true)
    {mk : Nat → Value} (hmk : MkOk mk) {xs : List Value} (hx : xs.all (plainB 100) = true) {lo : Lo}
    (hT : ∀ w, Tabs G [] w → Tri P G E w w.heap.size M f c (args ++ List.replicate (fd.ntmps - args.length) undef) [] (base0 G []) (Ends P 0 fd fun v σ => ∃ r pv, v = mk r ∧ σ.get r = some (.cells xs true lo pv))) : RowFn P G f args mk xs lo := by
  intro w hw
  have hH : Hold G E w w.heap.size M (inj0 G) (base0 G []) (base0 G []) w :=
    ⟨base0_R rfl hw, base0_wf rfl, ⟨rfl, fun _ _ => rfl⟩, fun g hg => by unfold inj0; rw [if_pos hg], fun i h1 _ => by
      have : (base0 G []).next = G := rfl
      unfold inj0; rw [if_neg (by omega)]⟩
  refine (Tri.call 0 hFn hok hfn hbody hH (args' := args.toArray) (plain_lRel args ha) (hT w hw)).mono fun v' w' hh => ?_
  obtain ⟨v, σ3, β', τ', ⟨r, pv, rfl, hg⟩, R', wf', like', hv⟩ := hh
  obtain ⟨e, he, hk⟩ := hmk β' r v' hv
  have hlt : r < σ3.next := by
    apply Classical.byContradiction
    intro hn
    rw [wf'.beyond r (by omega)] at hg; cases hg
  obtain ⟨C, ty, fr, h1, h2, h3, h4⟩ := R'.cells he (by rw [like'.2 r hlt]; exact hg)
  refine ⟨R'.base, e, (h3 rfl).1, hk, C, ty, fr, h1, fun i hi => ?_, (h3 rfl).2, h4⟩
  obtain ⟨u, hu, hr⟩ := h2 i hi
  rw [hu, plain_eq 100 _ _ (List.all_eq_true.1 hx _ (by simp)) hr]

theorem Pure.of_tri {M : Nat} (hFn : FnOk P G E) {f : FuncId} {fd : Func} {c : Code} (hok : E.ok f = true) (hfn : P.funcs[f]? = some fd) (hbody : fd.body = some c) {args : List Value} (ha : args.all (plainB 100) = true) {u : Value} (hu : plainB 100 u = true)
    (hT : ∀ w, Tabs G [] w → Tri P G E w w.heap.size M f c (args ++ List.replicate (fd.ntmps - args.length) undef) [] (base0 G []) (Ends P 0 fd fun v _ => v = u)) : Pure P G [] f args u := by
  intro w hw
  have hH : Hold G E w w.heap.size M (inj0 G) (base0 G []) (base0 G []) w :=
    ⟨base0_R rfl hw, base0_wf rfl, ⟨rfl, fun _ _ => rfl⟩, fun g hg => by unfold inj0; rw [if_pos hg], fun i h1 _ => by
      have : (base0 G []).next = G := rfl
      unfold inj0; rw [if_neg (by omega)]⟩
  refine (Tri.call 0 hFn hok hfn hbody hH (args' := args.toArray) (plain_lRel args ha) (hT w hw)).mono fun v' w' hh => ?_
  obtain ⟨v, σ3, β', τ', rfl, R', wf', like', hv⟩ := hh
  exact ⟨plain_eq 100 _ _ hu hv, R'.base⟩

end
end Go.Va
