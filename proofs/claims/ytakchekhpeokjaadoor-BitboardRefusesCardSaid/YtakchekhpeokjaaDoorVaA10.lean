/-
  SIMULATION: slices of slices, append, strings to slices.
-/
import Derived.Test.YtakchekhpeokjaaDoorVaA9
namespace Go.Va
open Go.RowKit
variable {P : Program} {K : FuncId → Code → Prop} {W0 : World} {N0 : Nat}

/-- A step over the abstract heap, and a computation of the model. -/
def Sim2 (P : Program) (K : FuncId → Code → Prop) (W0 : World) (N0 : Nat) (β : Inj) (f : AS → Option (Value × AS)) (s' : Sem Value) : Prop :=
  ∀ σ w v σ', σ.Any → R K W0 N0 β σ w → f σ = some (v, σ') → Fresh β σ σ' →
    ∃ v' w' β', s'.run P w = .ok v' w' ∧ Ext β β' σ σ' ∧ R K W0 N0 β' σ' w' ∧ vRel β' v v'

theorem Sim.two {β : Inj} {s s' : Sem Value} (h : Sim P K W0 N0 β s s' vRel) (lim : Nat) : Sim2 P K W0 N0 β (fun σ => runA P lim s σ) s' :=
  fun σ w v σ' hw hR hr hf => h lim σ w v σ' hw hR hr hf

theorem asN_spec {o : Option Value} {d n : Nat} (h : asN o d = some n) : (o = none ∧ n = d) ∨ ∃ k m, o = some (.int k m) ∧ 0 ≤ m ∧ n = m.toNat := by
  cases o with
  | none => simp only [asN, Option.some.injEq] at h; exact .inl ⟨rfl, h.symm⟩
  | some v =>
    cases v <;> simp only [asN] at h <;> first | cases h | skip
    rename_i k m
    cases hm : decide (0 ≤ m) with
    | false => simp [hm] at h
    | true =>
      simp only [hm, cond_true, Option.some.injEq] at h
      exact .inr ⟨k, m, rfl, of_decide_eq_true hm, h.symm⟩

theorem ovRel_int {β : Inj} {o o' : Option Value} (h : ovRel β o o') : (o = none → o' = none) ∧ ∀ k m, o = some (.int k m) → o' = some (.int k m) := by
  cases o with
  | none => cases o' with
    | none => exact ⟨fun _ => rfl, fun _ _ h => (by cases h)⟩
    | some _ => exact h.elim
  | some v => cases o' with
    | none => exact h.elim
    | some v' => exact ⟨fun h => (by cases h), fun k m e => (by cases e; cases h; rfl)⟩

theorem run_sliceBound {k : IntKind} {n : Int} {y : Nat} {c : BoundsCode} (w : World) (h0 : 0 ≤ n) (h1 : n.toNat ≤ y) : (Instr.sliceBound (.int k n) y c).run P w = .ok n.toNat w := by
  have h2 : n ≤ (y : Int) := by omega
  unfold Instr.sliceBound
  rw [run_bind']
  show (if 0 ≤ n ∧ n ≤ (y : Int) then (pure n.toNat : Sem Nat) else boundsPanic k n y c).run P w = _
  rw [if_pos ⟨h0, h2⟩]; rfl

/-- Bounds that hold. -/
theorem run_sliceBounds {lo hi mx : Option Value} {len cap l h m : Nat} (b : Bool) (w : World) (h1 : asN lo 0 = some l) (h2 : asN hi len = some h) (h3 : asN mx cap = some m)
    (hlh : l ≤ h) (hhm : h ≤ m) (hmc : m ≤ cap) (hmh : mx.isSome = true → hi.isSome = true) : (Instr.sliceBounds b len cap lo hi mx).run P w = .ok (l, h, m) w := by
  have low : ∀ c, (match lo with | some v => Instr.sliceBound v h c | none => pure 0 : Sem Nat).run P w = .ok l w := by
    intro c
    rcases asN_spec h1 with ⟨rfl, rfl⟩ | ⟨k, n, rfl, hn, rfl⟩
    · rfl
    · exact run_sliceBound w hn hlh
  unfold Instr.sliceBounds
  dsimp only
  have lowk : (do let l ← match lo with | some v => Instr.sliceBound v h (if mx.isSome then .slice3C else .sliceB) | none => pure 0
                  pure (l, h, m) : Sem (Nat × Nat × Nat)).run P w = .ok (l, h, m) w := by
    have := low (if mx.isSome then .slice3C else .sliceB)
    cases lo with
    | none =>
      rw [run_bind']; rw [show (pure 0 : Sem Nat).run P w = .ok 0 w from rfl]
      simp only [asN, Option.some.injEq] at h1; subst h1; rfl
    | some v => rw [run_bind']; simp only [] at this; rw [this]; rfl
  have highk : (do let h' ← match hi, mx with
                    | some v, some _ => Instr.sliceBound v m .slice3B
                    | some v, none => Instr.sliceBound v m (if b then .sliceAcap else .sliceAlen)
                    | none, none => pure len
                    | none, some _ => stuck "Slice: max without high"
                   let l ← match lo with | some v => Instr.sliceBound v h' (if mx.isSome then .slice3C else .sliceB) | none => pure 0
                   pure (l, h', m) : Sem (Nat × Nat × Nat)).run P w = .ok (l, h, m) w := by
    cases hi with
    | none =>
      cases mx with
      | some v => simp at hmh
      | none =>
        simp only [asN, Option.some.injEq] at h2; subst h2
        exact lowk
    | some v =>
      rcases asN_spec h2 with ⟨hh, _⟩ | ⟨k, n, hh, hn, rfl⟩
      · cases hh
      · cases hh
        cases mx with
        | none =>
          have := run_sliceBound (P := P) (k := k) (c := if b then .sliceAcap else .sliceAlen) w hn hhm
          rw [run_bind', this]; exact lowk
        | some u =>
          have := run_sliceBound (P := P) (k := k) (c := .slice3B) w hn hhm
          rw [run_bind', this]; exact lowk
  cases mx with
  | none =>
    simp only [asN, Option.some.injEq] at h3; subst h3
    exact highk
  | some u =>
    rcases asN_spec h3 with ⟨hh, _⟩ | ⟨k, n, hh, hn, rfl⟩
    · cases hh
    · cases hh
      have := run_sliceBound (P := P) (k := k) (c := if b then .slice3Acap else .slice3Alen) w hn hmc
      rw [run_bind', this]; exact highk

theorem run_slice_slice {t elem : TypeId} {i : TypeInfo} (hd : P.underlying t = some (.slice elem)) (hi : P.info? elem = some i) {base : Option Addr} {lo hi' mx : Option Value} {len cap l h m : Nat} (w : World)
    (hb : (Instr.sliceBounds true len cap lo hi' mx).run P w = .ok (l, h, m) w) :
    (Instr.sliceAt t (.slice base len cap) lo hi' mx).run P w = .ok (.slice (if m = l then base else base.map (·.add (l * i.size))) (h - l) (m - l)) w := by
  unfold Instr.sliceAt
  rw [run_bind', run_underlying' t w _ hd]
  dsimp only
  unfold Instr.slice
  rw [run_bind', run_underlying' t w _ hd]
  dsimp only
  rw [run_bind', hb]
  dsimp only
  rw [run_bind', run_sizeOf' elem w i hi]
  rfl

/-- Where the abstract slice is known to end its capacity, the model's does too. -/
theorem exact_cap {β : Inj} {σ : AS} {w : World} (hR : R K W0 N0 β σ w) {p : Addr} {c c' : Nat} (hc : capRel β p c c') (he : σ.exact p c = true) : c' = c := by
  rcases hc with rfl | ⟨e, sz, esz, real, hb, ht, h1, h2, h3⟩
  · rfl
  · unfold AS.exact at he
    split at he
    · rename_i cs rw pv hg
      obtain ⟨C, ty, fr, _, _, _, k, _⟩ := hR.cells hb hg
      rw [ht] at k; cases k
    · rename_i cs rw es pv hg
      obtain ⟨C, ty, fr, _, _, _, k, _⟩ := hR.cells hb hg
      rw [ht] at k
      simp only [Option.map_some, Option.some.injEq, Prod.mk.injEq] at k
      have := blt_iff.1 he
      obtain ⟨rfl, rfl, rfl⟩ := k
      omega
    · cases he

theorem capRel.add {β : Inj} {p : Addr} {c c' n size : Nat} (hc : capRel β p c c') (hn : n ≤ c) (hs : ∀ e sz esz real, β p.block = some e → e.tail = some (sz, esz, real) → esz = size ∨ c = c') :
    capRel β (p.add (n * size)) (c - n) (c' - n) := by
  rcases hc with rfl | ⟨e, sz, esz, real, hb, ht, h1, h2, h3⟩
  · exact .inl rfl
  · rcases hs e sz esz real hb ht with rfl | rfl
    · refine .inr ⟨e, sz, esz, real, ?_, ht, ?_, ?_, by omega⟩
      · unfold Addr.add; split <;> exact hb
      · have : (p.add (n * esz)).off = p.off + n * esz := by unfold Addr.add; split <;> simp_all
        rw [this, Nat.sub_mul]
        have : n * esz ≤ c * esz := Nat.mul_le_mul_right _ hn
        omega
      · have : (p.add (n * esz)).off = p.off + n * esz := by unfold Addr.add; split <;> simp_all
        rw [this, Nat.sub_mul]
        have : n * esz ≤ c' * esz := Nat.mul_le_mul_right _ (by omega)
        omega
    · exact .inl rfl

theorem asN_rel {β : Inj} {o o' : Option Value} {d n : Nat} (h : ovRel β o o') (ho : asN o d = some n) : asN o' d = some n := by
  rcases asN_spec ho with ⟨rfl, rfl⟩ | ⟨k, m, rfl, _, _⟩
  · rw [(ovRel_int h).1 rfl]; rfl
  · rw [(ovRel_int h).2 k m rfl]; exact ho

theorem ovRel_isSome {β : Inj} {o o' : Option Value} (h : ovRel β o o') : o.isSome = o'.isSome := by
  cases o <;> cases o' <;> first | rfl | exact h.elim

theorem sim2_slice {β : Inj} {t : TypeId} {x x' : Value} {lo lo' hi hi' mx mx' : Option Value} (hx : vRel β x x') (h1 : ovRel β lo lo') (h2 : ovRel β hi hi') (h3 : ovRel β mx mx') (lim : Nat) :
    Sim2 P K W0 N0 β (fun σ => sliceA P lim t x lo hi mx σ) (Instr.sliceAt t x' lo' hi' mx') := by
  by_cases hs : isSl x = false
  · have : (fun σ => sliceA P lim t x lo hi mx σ) = fun σ => runA P lim (Instr.sliceAt t x lo hi mx) σ := by
      funext σ
      cases x <;> first | rfl | cases hs
    rw [this]
    exact (sim_sliceAt hx hs h1 h2 h3).two lim
  · intro σ w v σ' hw hR hr hf
    have hx0 : ∃ base len cap, x = .slice base len cap := by
      cases x <;> first | exact ⟨_, _, _, rfl⟩ | exact absurd rfl hs
    obtain ⟨base, len, cap, rfl⟩ := hx0
    simp only [sliceA] at hr
    cases hso : sliceOf P σ t base len cap lo hi mx with
    | none => rw [hso] at hr; cases hr
    | some u =>
      rw [hso] at hr
      simp only [Option.some.injEq, Prod.mk.injEq] at hr
      obtain ⟨rfl, rfl⟩ := hr
      unfold sliceOf at hso
      split at hso
      · rename_i elem hd
        split at hso
        · rename_i i hi0
          split at hso
          · rename_i l h m e1 e2 e3
            cases hb : (Nat.ble l h && Nat.ble h m && Nat.ble m cap && (mx.isNone || hi.isSome)) with
            | false => simp [hb] at hso
            | true =>
              simp only [hb, cond_true] at hso
              simp only [Bool.and_eq_true, Bool.or_eq_true] at hb
              obtain ⟨⟨⟨b1, b2⟩, b3⟩, b4⟩ := hb
              have b1 : l ≤ h := Nat.ble_eq ▸ b1
              have b2 : h ≤ m := Nat.ble_eq ▸ b2
              have b3 : m ≤ cap := Nat.ble_eq ▸ b3
              have b4 : mx'.isSome = true → hi'.isSome = true := by
                rw [← ovRel_isSome h3, ← ovRel_isSome h2]
                intro hm
                rcases b4 with b4 | b4
                · rw [Option.isNone_iff_eq_none] at b4; rw [b4] at hm; cases hm
                · exact b4
              have done : ∀ {base' : Option Addr} {cap' m' : Nat} {v' : Value}, asN mx' cap' = some m' → m ≤ m' → m' ≤ cap' → x' = .slice base' len cap' →
                  vRel β u (.slice (if m' = l then base' else base'.map (·.add (l * i.size))) (h - l) (m' - l)) →
                  ∃ v' w' β', (Instr.sliceAt t x' lo' hi' mx').run P w = .ok v' w' ∧ Ext β β' σ σ ∧ R K W0 N0 β' σ w' ∧ vRel β' u v' := by
                intro base' cap' m' _ g1 g2 g3 g4 g5
                subst g4
                exact ⟨_, w, β, run_slice_slice hd hi0 w (run_sliceBounds true w (asN_rel h1 e1) (asN_rel h2 e2) g1 b1 (by omega) g3 b4), .refl _ _, hR, g5⟩
              have cap3 : ∀ cap' : Nat, cap ≤ cap' → ∃ m', asN mx' cap' = some m' ∧ m ≤ m' ∧ m' ≤ cap' ∧ (mx.isSome = true → m' = m) ∧ (mx.isSome = false → m' = cap' ∧ m = cap) := by
                intro cap' hc
                rcases asN_spec e3 with ⟨rfl, rfl⟩ | ⟨k, n, rfl, hn, rfl⟩
                · rw [(ovRel_int h3).1 rfl]
                  exact ⟨cap', rfl, hc, Nat.le_refl _, fun h => (by cases h), fun _ => ⟨rfl, rfl⟩⟩
                · rw [(ovRel_int h3).2 k n rfl]
                  exact ⟨n.toNat, e3, Nat.le_refl _, by omega, fun _ => rfl, fun h => (by cases h)⟩
              cases hx with
              | sliceNone _ _ =>
                simp only [Option.some.injEq] at hso
                subst hso
                obtain ⟨m', g1, g2, g3, g4, g5⟩ := cap3 cap (Nat.le_refl _)
                have hmm : m' = m := by
                  cases hms : mx.isSome with
                  | true => exact g4 hms
                  | false => obtain ⟨rfl, rfl⟩ := g5 hms; rfl
                subst hmm
                refine done (v' := .nilFunc) g1 g2 g3 rfl ?_
                split <;> exact .sliceNone _ _
              | void a' c' hsp =>
                simp only [hsp, cond_true, Option.some.injEq] at hso
                subst hso
                obtain ⟨m', g1, g2, g3, g4, g5⟩ := cap3 c' (Nat.zero_le _)
                refine done (v' := .nilFunc) g1 g2 g3 rfl ?_
                have : h - l = 0 := by omega
                rw [this]
                split <;> exact .void _ _ hsp
              | slice _ ha hc =>
                rename_i p p' cap'
                have hsp : p.spot = none := ha.1
                simp only [hsp, Option.isSome_none, cond_false] at hso
                cases hgn : (σ.get p.block).isNone with
                | true => simp [hgn] at hso
                | false =>
                simp only [hgn, cond_false] at hso
                have hcc : cap ≤ cap' := by
                  rcases hc with rfl | ⟨_, _, _, _, _, _, _, _, h⟩
                  · exact Nat.le_refl _
                  · exact h
                obtain ⟨m', g1, g2, g3, g4, g5⟩ := cap3 cap' hcc
                cases hml : Nat.beq m l with
                | true =>
                  have hml' : m = l := Nat.eq_of_beq_eq_true hml
                  simp only [hml, cond_true] at hso
                  cases hex0 : (mx.isSome || σ.exact p cap || Nat.beq l 0) with
                  | true =>
                    simp only [hex0, cond_true, Option.some.injEq] at hso
                    subst hso
                    cases hex : (mx.isSome || σ.exact p cap) with
                    | false =>
                      rw [hex, Bool.false_or] at hex0
                      have hl0 : l = 0 := Nat.eq_of_beq_eq_true hex0
                      simp only [Bool.or_eq_false_iff] at hex
                      obtain ⟨rfl, rfl⟩ := g5 hex.1
                      subst hl0
                      refine done (v' := .nilFunc) g1 g2 g3 rfl ?_
                      have hadd : (some p').map (·.add (0 * i.size)) = some p' := by
                        simp [Addr.add]
                      rw [hadd, ite_self]
                      exact .slice _ ha hc
                    | true =>
                      have hmm : m' = m := by
                        cases hms : mx.isSome with
                        | true => exact g4 hms
                        | false =>
                          rw [hms, Bool.false_or] at hex
                          obtain ⟨rfl, rfl⟩ := g5 hms
                          exact exact_cap hR hc hex
                      subst hmm
                      refine done (v' := .nilFunc) g1 g2 g3 rfl ?_
                      rw [if_pos hml']
                      exact .slice _ ha (.inl rfl)
                  | false =>
                    simp only [hex0, cond_false, Option.some.injEq] at hso
                    subst hso
                    refine done (v' := .nilFunc) g1 g2 g3 rfl ?_
                    have : h - l = 0 := by omega
                    rw [this]
                    split <;> exact .void _ _ rfl
                | false =>
                  have hml' : m ≠ l := by intro e; rw [e] at hml; simp at hml
                  simp only [hml, cond_false] at hso
                  cases hex : (mx.isSome || σ.exact p cap || σ.looseIs p i.size) with
                  | false => simp [hex] at hso
                  | true =>
                    simp only [hex, cond_true, Option.some.injEq] at hso
                    subst hso
                    refine done (v' := .nilFunc) g1 g2 g3 rfl ?_
                    have hm'l : m' ≠ l := by omega
                    rw [if_neg hm'l]
                    refine .slice _ (ha.add _) ?_
                    cases hms : mx.isSome with
                    | true => rw [g4 hms]; exact .inl rfl
                    | false =>
                      obtain ⟨rfl, rfl⟩ := g5 hms
                      rw [hms, Bool.false_or, Bool.or_eq_true] at hex
                      rcases hex with hex | hex
                      · rw [exact_cap hR hc hex]; exact .inl rfl
                      · refine hc.add (by omega) fun e sz esz real hb ht => .inl ?_
                        unfold AS.looseIs at hex
                        split at hex
                        · rename_i cs rw es pv hg
                          obtain ⟨C, ty, fr, _, _, _, k, _⟩ := hR.cells hb hg
                          rw [ht] at k
                          simp only [Option.map_some, Option.some.injEq, Prod.mk.injEq] at k
                          rw [k.2.1]
                          exact Nat.eq_of_beq_eq_true hex
                        · cases hex
          · cases hso
        · cases hso
      · cases hso

end Go.Va
