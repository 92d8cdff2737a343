/-
  A RUN OF THE INTERPRETER LOOKS AT NOTHING BEYOND 'next', AND WRITES NOTHING BELOW 'lim'.
-/
import Derived.Test.YtakchekhpeokjaaDoorVaA15
namespace Go.Va
variable {P : Program}

/-- A step that keeps what lies below 'lim', and looks at nothing beyond 'next'. -/
def Good {γ : Type} (lim : Nat) (f : AS → Option (γ × AS)) : Prop :=
  ∀ σ v σ', f σ = some (v, σ') → σ.Wf → Kept lim σ σ' ∧ ∀ τ, σ.Like τ → ∃ τ', f τ = some (v, τ') ∧ σ'.Led τ τ'

theorem Kept.any {lim : Nat} {σ σ' : AS} (h : Kept σ.next σ σ') : Kept lim σ σ' := ⟨h.next, h.wf, fun i _ hn => h.old i hn hn⟩

theorem good_runA {α : Type} {lim : Nat} (s : Sem α) : Good lim (runA P lim s) := fun _ _ _ h hw => blind_runA s h hw

theorem exact_like {σ τ : AS} (hw : σ.Wf) (hl : σ.Like τ) {p : Addr} {c : Nat} (h : (σ.get p.block).isSome = true) : τ.exact p c = σ.exact p c := by
  unfold AS.exact
  obtain ⟨x, hx⟩ := Option.isSome_iff_exists.1 h
  rw [hl.2 _ (lt_of_get hw hx)]

/-- The places that a look-up of a row asks of are the same. -/
theorem get_like {σ τ : AS} (hw : σ.Wf) (hl : σ.Like τ) {r : Nat} {x : AObj} (h : σ.get r = some x) : τ.get r = some x := by
  rw [hl.2 _ (lt_of_get hw h)]; exact h

theorem sliceOf_like {σ τ : AS} (hw : σ.Wf) (hl : σ.Like τ) {t : TypeId} {base : Option Addr} {len cap : Nat} {lo hi mx : Option Value} {v : Value} (h : sliceOf P σ t base len cap lo hi mx = some v) :
    sliceOf P τ t base len cap lo hi mx = some v := by
  unfold sliceOf at *
  split at h
  · rename_i elem hd
    split at h
    · rename_i i hi0
      split at h
      · rename_i l hh m e1 e2 e3
        cases hb : (Nat.ble l hh && Nat.ble hh m && Nat.ble m cap && (mx.isNone || hi.isSome)) with
        | false => simp [hb] at h
        | true =>
          simp only [hb, cond_true] at h ⊢
          cases base with
          | none => exact h
          | some p =>
            dsimp only at h ⊢
            cases hsp : p.spot.isSome with
            | true => simp only [hsp, cond_true] at h ⊢; exact h
            | false =>
              simp only [hsp, cond_false] at h ⊢
              cases hg : σ.get p.block with
              | none => rw [hg] at h; cases h
              | some x =>
                have hg' := get_like hw hl hg
                have h1 := exact_like hw hl (p := p) (c := cap) (by rw [hg]; rfl)
                have h2 : τ.looseIs p i.size = σ.looseIs p i.size := by
                  unfold AS.looseIs
                  rw [hg, hg']
                rw [hg', h1, h2]
                rw [hg] at h
                exact h
      · cases h
    · cases h
  · cases h

theorem good_slice {lim : Nat} {t : TypeId} {x : Value} {lo hi mx : Option Value} : Good lim (fun σ => sliceA P lim t x lo hi mx σ) := by
  intro σ v σ' h hw
  cases x
  case slice base len cap =>
    simp only [sliceA] at h ⊢
    cases hs : sliceOf P σ t base len cap lo hi mx with
    | none => rw [hs] at h; cases h
    | some u =>
      rw [hs] at h
      simp only [Option.some.injEq, Prod.mk.injEq] at h
      obtain ⟨rfl, rfl⟩ := h
      exact ⟨.refl _ _, fun τ hl => ⟨τ, by rw [sliceOf_like hw hl hs], .refl hl⟩⟩
  all_goals exact good_runA _ σ v σ' h hw

theorem newCells_like {σ τ : AS} (hw : σ.Wf) (hl : σ.Like τ) {lim : Nat} {i : TypeInfo} {xt : Option TypeId} {x : Value} {r : List Value × Nat} (h : newCells P lim i xt x σ = some r) : newCells P lim i xt x τ = some r := by
  unfold newCells at *
  split at h
  · exact h
  · split at h
    · rename_i n hn
      split at h
      · rename_i c σ1 hr
        obtain ⟨τ', h1, _⟩ := (blind_runA _ hr hw).2 τ hl
        rw [h1]; exact h
      · cases h
    · cases h
  · cases h

theorem setCells_good {lim : Nat} {a : Addr} : ∀ (l : List Value) (i : Nat) (σ σ' : AS), σ.setCells lim a l i = some σ' → σ.Wf → Kept lim σ σ' ∧ ∀ τ, σ.Like τ → ∃ τ', τ.setCells lim a l i = some τ' ∧ σ'.Led τ τ'
  | [], i, σ, σ', h, hw => by
    simp only [AS.setCells, Option.some.injEq] at h
    subst h
    exact ⟨.refl _ _, fun τ hl => ⟨τ, rfl, .refl hl⟩⟩
  | v :: l, i, σ, σ', h, hw => by
    simp only [AS.setCells] at h ⊢
    cases ho : oneCell v with
    | false => simp [ho] at h
    | true =>
      simp only [ho, cond_true] at h ⊢
      cases hs : σ.setCell lim (a.add i) v with
      | none => rw [hs] at h; cases h
      | some σ1 =>
        rw [hs] at h
        have hk := kept_setCell hs
        obtain ⟨h1, h2⟩ := setCells_good l (i + 1) σ1 σ' h (hk.wf hw)
        refine ⟨hk.trans h1, fun τ hl => ?_⟩
        obtain ⟨τ1, e1, e2⟩ := led_setCell hw hl hs
        obtain ⟨τ2, e3, e4⟩ := h2 τ1 e2.like
        exact ⟨τ2, by rw [e1]; exact e3, e2.trans e4 h1.next⟩

theorem good_append1 {lim : Nat} {elem : TypeId} {i : TypeInfo} {base : Option Addr} {sLen sCap n : Nat} {new : List Value} : Good lim (fun σ => append1 lim elem i base sLen sCap n new σ) := by
  intro σ v σ' h hw
  unfold append1 at h ⊢
  cases hle : Nat.ble (sLen + n) sCap with
  | true =>
    simp only [hle, cond_true] at h ⊢
    cases base with
    | none =>
      simp only [Option.some.injEq, Prod.mk.injEq] at h ⊢
      obtain ⟨rfl, rfl⟩ := h
      exact ⟨.refl _ _, fun τ hl => ⟨τ, ⟨rfl, rfl⟩, .refl hl⟩⟩
    | some p =>
      dsimp only at h ⊢
      cases hs : σ.setCells lim (p.add (sLen * i.size)) new 0 with
      | none => rw [hs] at h; cases h
      | some σ1 =>
        rw [hs] at h
        simp only [Option.some.injEq, Prod.mk.injEq] at h
        obtain ⟨rfl, rfl⟩ := h
        obtain ⟨h1, h2⟩ := setCells_good _ _ _ _ hs hw
        refine ⟨h1, fun τ hl => ?_⟩
        obtain ⟨τ1, e1, e2⟩ := h2 τ hl
        exact ⟨τ1, by rw [e1], e2⟩
  | false =>
    simp only [hle, cond_false] at h ⊢
    cases hcond : (Nat.ble ((sLen + n) * i.bytes) 70368744177664 && Nat.blt 0 i.bytes && i.zero.isSome && new.all oneCell && Nat.beq new.length (n * i.size)) with
    | false => simp [hcond] at h
    | true =>
      simp only [hcond, cond_true] at h ⊢
      cases base with
      | none =>
        cases hsl : Nat.beq sLen 0 with
        | false => simp [hsl] at h
        | true =>
          simp only [hsl, cond_true, Option.some.injEq, Prod.mk.injEq] at h ⊢
          obtain ⟨rfl, rfl⟩ := h
          exact ⟨kept_push _ _ _ (fun q hq => by cases hq), fun τ hl => ⟨τ.push (.cells new true (some i.size, some elem) none), ⟨by rw [hl.1], rfl⟩, led_push hl _⟩⟩
      | some p =>
        dsimp only at h ⊢
        split at h
        case h_2 => cases h
        rename_i c rw lo pv hspn hg
        have hlt := lt_of_get hw hg
        rw [hspn]
        cases hl' : Nat.ble (p.off + sLen * i.size) c.length with
        | false => simp [hl'] at h
        | true =>
        simp only [hl', cond_true] at h
        cases hex : σ.exact p sCap with
        | true =>
          simp only [hex, cond_true, Option.some.injEq, Prod.mk.injEq] at h
          obtain ⟨rfl, rfl⟩ := h
          refine ⟨kept_push _ _ _ (fun q hq => by cases hq), fun τ hl => ⟨τ.push (.cells ((c.drop p.off).take (sLen * i.size) ++ new) true (some i.size, some elem) none), ?_, led_push hl _⟩⟩
          rw [get_like hw hl hg]
          dsimp only
          rw [hl', exact_like hw hl (by rw [hg]; rfl), hex, hl.1]; rfl
        | false =>
          simp only [hex, cond_false] at h
          cases hcnd : (rw && Nat.ble lim p.block && (lo == (some i.size, some elem))) with
          | false => simp [hcnd] at h
          | true =>
            simp only [hcnd, cond_true] at h
            have hcnd' := hcnd
            simp only [Bool.and_eq_true, beq_iff_eq] at hcnd'
            have hlim : lim ≤ p.block := Nat.ble_eq ▸ hcnd'.1.2
            cases hk : σ.kill lim pv with
            | none => rw [hk] at h; cases h
            | some σ1 =>
              rw [hk] at h
              dsimp only at h
              obtain ⟨k1, k2, _⟩ := AS.kill_get hk
              have hkk := kept_kill hk
              have main : ∀ (X : Option AObj) (pv' : Option Nat) (all : List Value), (∀ y, X = some y → prevOf y = none) → (∀ q, pv' = some q → q = p.block) →
                  Kept lim σ ((σ1.put p.block X).push (.cells all true (some i.size, some elem) pv')) ∧ ∀ τ, σ.Like τ → ∃ τ1, τ.kill lim pv = some τ1 ∧ ((σ1.put p.block X).push (.cells all true (some i.size, some elem) pv')).Led τ ((τ1.put p.block X).push (.cells all true (some i.size, some elem) pv')) := by
                intro X pv' all hX hpv
                refine ⟨hkk.trans ((kept_put hlim (by omega) (fun _ y q hy hq => by rw [hX y hy] at hq; cases hq)).trans (kept_push _ _ _ (fun q hq => ?_))), fun τ hl => ?_⟩
                · have := hpv q hq
                  simp only [AS.next_put]; omega
                · obtain ⟨τ1, e1, e2⟩ := led_kill hl (fun q hq => hw.prev _ _ q hg hq) hk
                  have e3 := led_put e2.like (r := p.block) (by omega) X
                  have e4 := led_push e3.like (.cells all true (some i.size, some elem) pv')
                  exact ⟨τ1, e1, (e2.trans e3 (by simp)).trans e4 (by simp)⟩
              cases hq : Nat.beq sLen sCap with
              | true =>
                simp only [hq, cond_true, Option.some.injEq, Prod.mk.injEq] at h
                obtain ⟨rfl, rfl⟩ := h
                obtain ⟨m1, m2⟩ := main (some (.cells c false lo none)) (some p.block) ((c.drop p.off).take (sLen * i.size) ++ new) (fun y hy => by cases hy; rfl) (fun q hq => by cases hq; rfl)
                refine ⟨m1, fun τ hl => ?_⟩
                obtain ⟨τ1, e1, e2⟩ := m2 τ hl
                refine ⟨_, ?_, e2⟩
                rw [get_like hw hl hg]
                dsimp only
                rw [hl', exact_like hw hl (by rw [hg]; rfl), hex, hcnd, e1, hl.1]
                rfl
              | false =>
                simp only [hq, cond_false, Option.some.injEq, Prod.mk.injEq] at h
                obtain ⟨rfl, rfl⟩ := h
                obtain ⟨m1, m2⟩ := main none none ((c.drop p.off).take (sLen * i.size) ++ new) (fun y hy => by cases hy) (fun q hq => by cases hq)
                refine ⟨m1, fun τ hl => ?_⟩
                obtain ⟨τ1, e1, e2⟩ := m2 τ hl
                refine ⟨_, ?_, e2⟩
                rw [get_like hw hl hg]
                dsimp only
                rw [hl', exact_like hw hl (by rw [hg]; rfl), hex, hcnd, e1, hl.1]
                rfl

theorem good_append {lim : Nat} {argTypes : Array TypeId} {args : List Value} : Good lim (fun σ => appendA P lim argTypes args σ) := by
  intro σ v σ' h hw
  simp only [appendA] at h ⊢
  split at h
  case h_2 => cases h
  rename_i sType base sLen sCap x h0
  cases hd : P.underlying sType with
  | none => rw [hd] at h; cases h
  | some dd =>
  rw [hd] at h
  cases dd <;> first | cases h | skip
  rename_i elem
  dsimp only at h ⊢
  cases hi : P.info? elem with
  | none => rw [hi] at h; cases h
  | some i =>
  rw [hi] at h
  dsimp only at h ⊢
  cases hnc : newCells P lim i argTypes[1]? x σ with
  | none => rw [hnc] at h; cases h
  | some nc =>
  obtain ⟨new, n⟩ := nc
  rw [hnc] at h
  obtain ⟨h1, h2⟩ := good_append1 σ v σ' h hw
  refine ⟨h1, fun τ hl => ?_⟩
  obtain ⟨τ', e1, e2⟩ := h2 τ hl
  exact ⟨τ', by rw [newCells_like hw hl hnc]; exact e1, e2⟩

theorem good_ptrConv {lim : Nat} {src dst : TypeId} {a : Addr} : Good lim (fun σ => ptrConv P src dst a σ) := by
  intro σ v σ' h hw
  unfold ptrConv at h
  dsimp only at h
  split at h
  · rename_i x hg
    cases hb : (a.spot.isNone && ptrOk P src dst a.off x) with
    | false => rw [hb] at h; cases h
    | true =>
      rw [hb, cond_true] at h
      cases h
      refine ⟨.refl _ _, fun τ hl => ⟨τ, ?_, .refl hl⟩⟩
      show ptrConv P src dst a τ = _
      unfold ptrConv
      rw [get_like hw hl hg]
      dsimp only
      rw [hb, cond_true]
  · cases h

theorem good_conv {lim : Nat} {src dst : TypeId} {x : Value} : Good lim (fun σ => convA P lim src dst x σ) := by
  intro σ v σ' h hw
  have gen : ∀ x, (bif convOk P src dst x then runA P lim (convert src dst x) σ else none) = some (v, σ') →
      Kept lim σ σ' ∧ ∀ τ, σ.Like τ → ∃ τ', (bif convOk P src dst x then runA P lim (convert src dst x) τ else none) = some (v, τ') ∧ σ'.Led τ τ' := by
    intro x hx
    cases ho : convOk P src dst x with
    | false => rw [ho] at hx; cases hx
    | true => rw [ho] at hx; exact good_runA _ σ v σ' hx hw
  cases x
  case string s =>
    simp only [convA] at h ⊢
    split at h
    · rename_i e hd1 hd2
      split at h
      · rename_i hd3
        simp only [Option.some.injEq, Prod.mk.injEq] at h ⊢
        obtain ⟨rfl, rfl⟩ := h
        exact ⟨kept_push _ _ _ (fun q hq => by cases hq), fun τ hl => ⟨_, ⟨by rw [hl.1], rfl⟩, led_push hl _⟩⟩
      · rename_i hd3
        simp only [Option.some.injEq, Prod.mk.injEq] at h ⊢
        obtain ⟨rfl, rfl⟩ := h
        exact ⟨kept_push _ _ _ (fun q hq => by cases hq), fun τ hl => ⟨_, ⟨by rw [hl.1], rfl⟩, led_push hl _⟩⟩
      · cases h
    · exact gen _ h
  case pointer o =>
    cases o with
    | none => simp only [convA] at h ⊢; exact gen _ h
    | some a =>
      simp only [convA] at h ⊢
      exact good_ptrConv σ v σ' h hw
  all_goals (simp only [convA] at h ⊢; exact gen _ h)

theorem good_cap {lim : Nat} {argTypes : Array TypeId} {args : List Value} : Good lim (fun σ => capA P argTypes args σ) := by
  intro σ v σ' h hw
  simp only [capA] at h ⊢
  split at h
  case h_2 => cases h
  rename_i sType base l cap h0
  split at h
  case h_2 => cases h
  cases base with
  | none =>
    simp only [Option.some.injEq, Prod.mk.injEq] at h ⊢
    obtain ⟨rfl, rfl⟩ := h
    exact ⟨.refl _ _, fun τ hl => ⟨τ, ⟨rfl, rfl⟩, .refl hl⟩⟩
  | some p =>
    dsimp only at h ⊢
    cases hc : (p.spot.isNone && σ.exact p cap) with
    | false => simp [hc] at h
    | true =>
      simp only [hc, cond_true, Option.some.injEq, Prod.mk.injEq] at h
      obtain ⟨rfl, rfl⟩ := h
      refine ⟨.refl _ _, fun τ hl => ⟨τ, ?_, .refl hl⟩⟩
      simp only [Bool.and_eq_true] at hc
      have hg : (σ.get p.block).isSome = true := by
        have := hc.2
        unfold AS.exact at this
        cases hh : σ.get p.block with
        | none => rw [hh] at this; cases this
        | some x => rfl
      rw [exact_like hw hl hg, hc.1, hc.2]; rfl

/-! ## The interpreter -/

/-- A step, and then another. -/
def andThen {γ δ : Type} (r : Option (γ × AS)) (g : γ → AS → Option (δ × AS)) : Option (δ × AS) :=
  match r with
  | some (v, σ1) => g v σ1
  | none => none

theorem Good.bind {γ δ : Type} {lim : Nat} {f : AS → Option (γ × AS)} {g : γ → AS → Option (δ × AS)} (hf : Good lim f) (hg : ∀ v, Good lim (g v)) :
    Good lim (fun σ => andThen (f σ) g) := by
  intro σ v σ2 h hw
  dsimp only at h ⊢
  cases h1 : f σ with
  | none => rw [h1] at h; cases h
  | some r =>
    obtain ⟨u, σ1⟩ := r
    rw [h1] at h
    obtain ⟨k1, b1⟩ := hf σ u σ1 h1 hw
    obtain ⟨k2, b2⟩ := hg u σ1 v σ2 h (k1.wf hw)
    refine ⟨k1.trans k2, fun τ hl => ?_⟩
    obtain ⟨τ1, e1, l1⟩ := b1 τ hl
    obtain ⟨τ2, e2, l2⟩ := b2 τ1 l1.like
    exact ⟨τ2, by rw [e1]; exact e2, l1.trans l2 k2.next⟩

theorem good_none {γ : Type} {lim : Nat} : Good lim (fun _ => (none : Option (γ × AS))) := fun _ _ _ h => by cases h
theorem good_some {γ : Type} {lim : Nat} (v : γ) : Good lim (fun σ => some (v, σ)) := fun σ u σ' h _ => by
  simp only [Option.some.injEq, Prod.mk.injEq] at h ⊢
  obtain ⟨rfl, rfl⟩ := h
  exact ⟨.refl _ _, fun τ hl => ⟨τ, ⟨rfl, rfl⟩, .refl hl⟩⟩
theorem Good.ext {γ : Type} {lim : Nat} {f g : AS → Option (γ × AS)} (h : Good lim f) (e : ∀ σ, g σ = f σ) : Good lim g := by
  have : g = f := funext e
  rw [this]; exact h
theorem Good.cond {γ : Type} {lim : Nat} {b : Bool} {f g : AS → Option (γ × AS)} (hf : Good lim f) (hg : Good lim g) : Good lim (fun σ => bif b then f σ else g σ) := by
  cases b
  · exact hg
  · exact hf

/-- The replaced functions look at nothing beyond 'next', and keep what lies below 'lim'. -/
theorem good_data {lim : Nat} {args : List Value} : Good lim (fun σ => dataA args σ) := by
  unfold dataA
  split
  · exact good_some _
  · exact Good.cond (good_some _) good_none
  · exact good_none

theorem good_ustr {lim : Nat} {argTypes : Array TypeId} {args : List Value} : Good lim (fun σ => ustrA P lim argTypes args σ) := by
  unfold ustrA
  split
  case h_2 => exact good_none
  rename_i p k n
  split
  case h_2 => exact good_none
  rename_i pt hpt
  refine Good.cond (good_some _) ?_
  split
  case h_2 => exact good_none
  rename_i e a _
  intro σ v σ' h hw
  dsimp only at h
  split at h
  case h_2 => cases h
  rename_i c lo pv hsp hg
  cases hb : (lo.2 == some e && Nat.beq (P.cellsOf e) 1 && decide (0 ≤ n) && Nat.ble (a.off + n.toNat) c.length && Nat.ble n.toNat 1099511627776 && Nat.ble lim a.block) with
  | false => rw [hb] at h; cases h
  | true =>
    rw [hb, cond_true] at h
    have hb' := hb
    simp only [Bool.and_eq_true] at hb'
    have hlb : lim ≤ a.block := Nat.ble_eq ▸ hb'.2
    split at h
    case h_2 => cases h
    rename_i s σ1 hs hk
    cases h
    have hlt := lt_of_get hw hg
    have hpv : ∀ q, pv = some q → q < σ.next := fun q hq => hw.prev _ _ q hg (by rw [hq]; rfl)
    have k1 := kept_kill hk
    refine ⟨k1.trans (kept_put hlb (by rw [(AS.kill_get hk).1]; exact hlt) (fun _ y q hy hq => by cases hy; cases hq)), fun τ hl => ?_⟩
    have hgτ : τ.get a.block = some (.cells c true lo pv) := get_like hw hl hg
    obtain ⟨n1, g1, q1⟩ := AS.kill_get hk
    have hkτ : ∃ τ1, τ.kill lim pv = some τ1 := by
      cases pv with
      | none => exact ⟨τ, rfl⟩
      | some q =>
        have hle : Nat.ble lim q = true := by
          cases hlq : Nat.ble lim q with
          | true => rfl
          | false => simp [AS.kill, hlq] at hk
        exact ⟨τ.put q none, by simp [AS.kill, hle]⟩
    obtain ⟨τ1, hkτ⟩ := hkτ
    obtain ⟨n2, g2, _⟩ := AS.kill_get hkτ
    refine ⟨τ1.put a.block (some (.cells c false lo none)), ?_, ⟨?_, fun id hid => ?_, fun id hid => ?_⟩⟩
    · dsimp only
      rw [hsp, hgτ]
      dsimp only
      rw [hb, cond_true, hs, hkτ]
    · simp only [AS.next_put]; rw [n2, n1, hl.1]
    · simp only [AS.next_put] at hid
      rw [AS.get_put, AS.get_put, g2, g1]
      split
      · rfl
      · split
        · rfl
        · exact hl.2 _ (by omega)
    · simp only [AS.next_put] at hid
      rw [AS.get_put, g2, if_neg (by omega), if_neg (fun hq => by have := hpv _ hq; omega)]

def OvGood (E : Env) : Prop := ∀ f args lim, Good lim (fun σ => E.ov f args lim σ)
def RecGood (rec : Rec) : Prop := ∀ lim k, Good lim (fun σ => rec lim k σ)

theorem Good.map {γ δ : Type} {lim : Nat} {f : AS → Option (γ × AS)} (hf : Good lim f) (g : γ → AS → Option (δ × AS)) (hg : ∀ v, Good lim (g v)) {h : AS → Option (δ × AS)}
    (e : ∀ σ, h σ = andThen (f σ) g) : Good lim h := (hf.bind hg).ext e

/-- A step that writes nothing of what was there, is good for every bound. -/
theorem Good.quiet {γ : Type} {lim : Nat} {f : Nat → AS → Option (γ × AS)} (h : ∀ l, Good l (f l)) (q : Bool) : Good lim (fun σ => f (bif q then σ.next else lim) σ) := by
  cases q
  · exact h lim
  · intro σ v σ' hr hw
    obtain ⟨k, b⟩ := h σ.next σ v σ' hr hw
    refine ⟨k.any, fun τ hl => ?_⟩
    obtain ⟨τ', e, l⟩ := b τ hl
    exact ⟨τ', by show f τ.next τ = _; rw [hl.1]; exact e, l⟩

section
variable {E : Env} {rec : Rec} (hE : OvGood E) (hr : RecGood rec)

include hr in
theorem good_recVal {lim : Nat} {k : Task} : Good lim (fun σ => match rec lim k σ with | some (.val v, σ') => some (v, σ') | _ => none) := by
  refine (hr lim k).map (fun o σ1 => match o with | .val v => some (v, σ1) | _ => none) (fun o => by cases o <;> first | exact good_some _ | exact good_none) fun σ => ?_
  rcases h : rec lim k σ with _ | ⟨o, σ1⟩
  · rfl
  · cases o <;> rfl

include hE hr
theorem good_enter {lim : Nat} {f : FuncId} {args : List Value} : Good lim (fun σ => enterA P E rec lim f args σ) := by
  unfold enterA
  exact (hE f args lim).cond (good_recVal hr)

theorem good_apply {lim : Nat} {f : Value} {args : List Value} : Good lim (fun σ => applyA P E rec lim f args σ) := by
  unfold applyA
  split
  · exact good_enter hE hr
  · rename_i l first captured
    refine (good_runA (P := P) (lim := lim) (Instr.yield l (first ++ args.toArray))).map (fun e σ1 => match e with | .round l f t assign body => (match rec lim (.round l f t.toList assign body) σ1 with | some (.val v, σ') => some (v, σ') | _ => none) | _ => none) (fun e => ?_) fun σ => ?_
    · cases e <;> first | exact good_recVal hr | exact good_none
    · rcases h : runA P lim (Instr.yield l (first ++ args.toArray)) σ with _ | ⟨o, σ1⟩
      · rfl
      · cases o <;> rfl
  · exact good_none

theorem good_oper {lim : Nat} {o : Oper} {t : List Value} : Good lim (fun σ => operA P E rec lim o t σ) := by
  have nx : ∀ (s : Sem Next) , Good lim (fun σ => nextVal (runA P lim s σ)) := fun s => by
    refine (good_runA (P := P) (lim := lim) s).map (fun n σ1 => match n with | .value v => some (v, σ1) | _ => none) (fun n => ?_) fun σ => ?_
    · cases n <;> first | exact good_some _ | exact good_none
    · rcases h : runA P lim s σ with _ | ⟨n, σ1⟩
      · rfl
      · cases n <;> rfl
  have nx2 : ∀ (s : Sem Next) , Good lim (fun σ => nextAny (runA P lim s σ)) := fun s => by
    refine (good_runA (P := P) (lim := lim) s).map (fun n σ1 => match n with | .value v => some (v, σ1) | .skip => some (undef, σ1) | _ => none) (fun n => ?_) fun σ => ?_
    · cases n <;> first | exact good_some _ | exact good_none
    · rcases h : runA P lim s σ with _ | ⟨n, σ1⟩
      · rfl
      · cases n <;> rfl
  unfold operA
  split
  · exact good_slice
  · exact good_conv
  · exact (good_runA _).cond good_none
  · exact (good_some _).cond good_none
  · exact (good_runA _).cond good_none
  · exact (good_runA _).cond good_none
  · split
    · exact good_append
    · exact good_cap
    · exact good_data
    · exact good_ustr
    · exact (nx _).cond good_none
    · exact good_apply hE hr
    · exact good_none
  · exact (nx2 _).cond good_none

theorem good_ops {lim : Nat} {ops : Array Oper} {q : Bool} : ∀ (l : List Oper) (t : List Value), Good lim (fun σ => opsA P E rec ops q lim l t σ)
  | [], t => good_some t
  | o :: rest, t => by
    unfold opsA
    refine Good.cond ?_ (good_ops rest _)
    refine (Good.quiet (f := fun l σ => operA P E rec l o t σ) (fun _ => good_oper hE hr) q).map (fun v σ1 => opsA P E rec ops q lim rest (putT t o.dst v) σ1) (fun v => good_ops rest (putT t o.dst v)) fun σ => ?_
    rcases operA P E rec (bif q then σ.next else lim) o t σ with _ | ⟨v, σ1⟩ <;> rfl

theorem good_op1 {lim : Nat} {ops : Array Oper} {q : Bool} {o : Oper} {t : List Value} : Good lim (fun σ => op1 P E rec ops q lim o t σ) := by
  unfold op1
  exact Good.cond (Good.quiet (f := fun l σ => operA P E rec l o t σ) (fun _ => good_oper hE hr) q) (good_some _)

theorem good_opsI {lim : Nat} {ops : Array Oper} : ∀ (l : List (Nat × Bool)) (t : List Value), Good lim (fun σ => opsI P E rec ops lim l t σ)
  | [], t => good_some t
  | x :: l, t => by
    unfold opsI
    cases ops[x.1]? with
    | none => exact good_none
    | some o =>
      refine (good_op1 (P := P) (lim := lim) hE hr (q := x.2) (ops := ops) (o := o) (t := t)).map (fun v σ1 => opsI P E rec ops lim l (putT t o.dst v) σ1) (fun v => good_opsI l _) fun σ => ?_
      dsimp only
      rcases op1 P E rec ops x.2 lim o t σ with _ | ⟨v, σ1⟩ <;> rfl

omit hE hr in
theorem good_take {lim : Nat} : ∀ ds, Good lim (fun σ => (takeA P lim ds σ).map fun σ' => ((), σ'))
  | [] => good_some ()
  | d :: ds => by
    refine (good_runA (P := P) (lim := lim) (Instr.takeDeferred d)).map (fun c σ1 => match c with | [] => (takeA P lim ds σ1).map fun σ' => ((), σ') | _ => none) (fun c => ?_) fun σ => ?_
    · cases c
      · exact good_take ds
      · exact good_none
    · simp only [takeA]
      rcases h : runA P lim (Instr.takeDeferred d) σ with _ | ⟨o, σ1⟩
      · rfl
      · cases o <;> rfl

omit hE in
theorem good_then {lim : Nat} {f : AS → Option (Out × AS)} (hf : Good lim f) (g : Out → Option Task) (k : Out → Out) {h : AS → Option (Out × AS)}
    (e : ∀ σ, h σ = andThen (f σ) fun v σ1 => (g v).elim (some (k v, σ1)) fun T => rec lim T σ1) : Good lim h := by
  refine hf.map _ (fun v => ?_) e
  cases g v
  · exact good_some _
  · exact hr _ _

theorem good_step {lim : Nat} (k : Task) : Good lim (fun σ => stepA P E rec lim k σ) := by
  cases k with
  | code x c t ds =>
    cases c with
    | skip => exact good_some _
    | label => exact good_some _
    | exit id => exact good_some _
    | goto l => exact good_some _
    | ret => exact good_some _
    | refuse m => exact good_none
    | scope body => exact hr _ _
    | region id ops draw =>
      simp only [stepA]
      refine Good.cond ?_ ?_
      · split
        · rename_i pl _
          refine (good_opsI (P := P) (lim := lim) hE hr (ops := ops) pl.l t).map (fun t1 σ1 => some (.done .normal t1 ds, σ1)) (fun t1 => good_some _) fun σ => ?_
          rcases opsI P E rec ops lim pl.l t σ with _ | ⟨t1, σ1⟩ <;> rfl
        · exact good_none
      · refine (good_ops (P := P) (lim := lim) hE hr (q := false) (ops := ops) ops.toList t).map (fun t1 σ1 => some (.done .normal t1 ds, σ1)) (fun t1 => good_some _) fun σ => ?_
        rcases opsA P E rec ops false lim ops.toList t σ with _ | ⟨t1, σ1⟩ <;> rfl
    | seq a b =>
      simp only [stepA]
      refine good_then hr (hr lim (.code x a t ds)) (fun | .done .normal t1 ds1 => some (.code x b t1 ds1) | _ => none) id fun σ => ?_
      rcases rec lim (.code x a t ds) σ with _ | ⟨o, σ1⟩
      · rfl
      · rcases o with ⟨e, t1, ds1⟩ | v
        · cases e <;> rfl
        · rfl
    | cond c a b =>
      simp only [stepA]
      split
      · exact hr _ _
      · exact good_none
    | block id body =>
      simp only [stepA]
      refine good_then hr (hr lim (.code x body t ds)) (fun _ => none) (fun | .done (.exit id') t1 ds1 => .done (bif Nat.beq id' id then .normal else .exit id') t1 ds1 | o => o) fun σ => ?_
      rcases rec lim (.code x body t ds) σ with _ | ⟨o, σ1⟩
      · rfl
      · rcases o with ⟨e, t1, ds1⟩ | v
        · cases e <;> rfl
        · rfl
    | loop body =>
      simp only [stepA]
      refine good_then hr (hr lim (.code x body t ds)) (fun | .done .normal t1 ds1 => some (.code x (.loop body) t1 ds1) | _ => none) id fun σ => ?_
      rcases rec lim (.code x body t ds) σ with _ | ⟨o, σ1⟩
      · rfl
      · rcases o with ⟨e, t1, ds1⟩ | v
        · cases e <;> rfl
        · rfl
    | rangeFunc f params assign body =>
      simp only [stepA]
      unfold rangeA
      have main : ∀ l m, Good lim (fun τ => andThen (applyA P E rec lim (ev t f) [.func (.yield l) #[] #[]] τ) fun _ σ2 => rangeEnd P lim t (m ++ ds) l σ2) := by
        intro l m
        refine (good_apply hE hr).bind fun _ => ?_
        refine (good_runA (P := P) (lim := lim) (Instr.endLoop l)).map (fun c σ3 => match c with
          | none => some (.done .normal t (m ++ ds), σ3)
          | some .ret => some (.done .ret t (m ++ ds), σ3)
          | some (.exit id) => some (.done (.exit id) t (m ++ ds), σ3)
          | some (.goto g) => some (.done (.goto g) t (m ++ ds), σ3)
          | _ => none) (fun c => ?_) fun τ => ?_
        · rcases c with _ | c
          · exact good_some _
          · cases c <;> first | exact good_some _ | exact good_none
        · unfold rangeEnd
          rcases runA P lim (Instr.endLoop l) τ with _ | ⟨c, σ3⟩
          · rfl
          · rcases c with _ | c
            · rfl
            · cases c <;> rfl
      refine (good_runA (P := P) (lim := lim) (Instr.enterLoop x.fn t.toArray params assign body x.round)).map (fun lm τ => match markIds lm.2 with
        | some m => andThen (applyA P E rec lim (ev t f) [.func (.yield lm.1) #[] #[]] τ) fun _ σ2 => rangeEnd P lim t (m ++ ds) lm.1 σ2
        | none => none) (fun lm => ?_) fun τ => ?_
      · obtain ⟨l, mark⟩ := lm
        dsimp only
        rcases markIds mark with _ | m
        · exact good_none
        · exact main l m
      · rcases runA P lim (Instr.enterLoop x.fn t.toArray params assign body x.round) τ with _ | ⟨⟨l, mark⟩, σ1⟩
        · rfl
        · simp only [andThen]
          rcases markIds mark with _ | m
          · rfl
          · dsimp only
            rcases applyA P E rec lim (ev t f) [.func (.yield l) #[] #[]] σ1 with _ | ⟨_, _⟩ <;> rfl
  | scope x body cur t ds =>
    simp only [stepA]
    refine good_then hr (hr lim (.code x cur t ds)) (fun | .done (.goto l) t1 ds1 => (findLabel body l).map fun rest => .scope x body rest t1 ds1 | _ => none) id fun σ => ?_
    rcases rec lim (.code x cur t ds) σ with _ | ⟨o, σ1⟩
    · rfl
    · rcases o with ⟨e, t1, ds1⟩ | v
      · cases e with
        | goto l => simp only [andThen]; cases findLabel body l <;> rfl
        | _ => rfl
      · rfl
  | call f args =>
    simp only [stepA]
    refine Good.cond ?_ good_none
    split
    · split
      · rename_i fn _ _ c _
        refine (hr lim (.code ⟨f, none⟩ c (args ++ List.replicate (fn.ntmps - args.length) undef) [])).map (fun o σ1 => match o with
          | .done e t1 ds1 => (match e with
            | .normal | .ret => andThen ((takeA P lim ds1 σ1).map fun σ' => ((), σ')) fun _ σ2 => andThen (runA P lim (results fn t1.toArray) σ2) fun v σ3 => some (.val v, σ3)
            | _ => none)
          | _ => none) (fun o => ?_) fun σ => ?_
        · rcases o with ⟨e, t1, ds1⟩ | v
          · cases e
            case normal => exact (good_take ds1).bind fun _ => (good_runA _).bind fun _ => good_some _
            case ret => exact (good_take ds1).bind fun _ => (good_runA _).bind fun _ => good_some _
            all_goals exact good_none
          · exact good_none
        · rcases rec lim (.code ⟨f, none⟩ c (args ++ List.replicate (fn.ntmps - args.length) undef) []) σ with _ | ⟨o, σ1⟩
          · rfl
          · rcases o with ⟨e, t1, ds1⟩ | v
            · cases e <;> first | rfl | (simp only [andThen]; rcases takeA P lim ds1 σ1 with _ | σ2 <;> first | rfl | (simp only [Option.map]; rcases runA P lim (results fn t1.toArray) σ2 with _ | ⟨_, _⟩ <;> rfl))
            · rfl
      · exact good_none
    · exact good_none
  | round l f t assign body =>
    simp only [stepA]
    refine (hr lim (.code ⟨f, some l⟩ assign t [])).map (fun o σ1 => match o with
      | .done .normal t1 [] => andThen (runA P lim (Instr.beginRound l) σ1) fun _ σ2 => andThen (rec lim (.code ⟨f, some l⟩ body t1 []) σ2) fun o σ3 => (match o with
            | .done e _ [] => andThen (runA P lim (Instr.endRound l (match e with | .normal => none | .ret => some .ret | .exit id => some (.exit id) | .goto g => some (.goto g))) σ3) fun v σ4 => some (.val v, σ4)
            | _ => none)
      | _ => none) (fun o => ?_) fun σ => ?_
    · rcases o with ⟨e, t1, ds1⟩ | v
      · cases e with
        | normal =>
          cases ds1 with
          | nil =>
            refine (good_runA _).bind fun _ => (hr _ _).bind fun o => ?_
            rcases o with ⟨e, t2, ds2⟩ | v
            · cases ds2 with
              | nil => exact (good_runA _).bind fun _ => good_some _
              | cons _ _ => exact good_none
            · exact good_none
          | cons _ _ => exact good_none
        | _ => exact good_none
      · exact good_none
    · rcases rec lim (.code ⟨f, some l⟩ assign t []) σ with _ | ⟨o, σ1⟩
      · rfl
      · rcases o with ⟨e, t1, ds1⟩ | v
        · cases e with
          | normal =>
            cases ds1 with
            | nil =>
              simp only [andThen]
              rcases runA P lim (Instr.beginRound l) σ1 with _ | ⟨u, σ2⟩
              · rfl
              · dsimp only
                rcases rec lim (.code ⟨f, some l⟩ body t1 []) σ2 with _ | ⟨o, σ3⟩
                · rfl
                · rcases o with ⟨e, t2, ds2⟩ | v
                  · cases ds2 with
                    | nil =>
                      dsimp only
                      rcases runA P lim (Instr.endRound l _) σ3 with _ | ⟨_, _⟩ <;> rfl
                    | cons _ _ => rfl
                  · rfl
            | cons _ _ => rfl
          | _ => rfl
        · rfl
end

theorem good_run {E : Env} (hE : OvGood E) : ∀ n, RecGood (run P E n)
  | 0 => fun _ _ => good_none
  | n + 1 => fun _ k => good_step hE (good_run hE n) k

end Go.Va
