/-
  SIMULATION: append: the theorem.
-/
import Derived.Test.YtakchekhpeokjaaDoorVaA13
namespace Go.Va
open Go.RowKit
variable {P : Program} {K : FuncId → Code → Prop} {W0 : World} {N0 : Nat}

theorem behind_run {β : Inj} (hZ : ZeroOk P) {lim : Nat} {elem : TypeId} {i : TypeInfo} (hi : P.info? elem = some i) {xt : Option TypeId} {x x' : Value} (hx : vRel β x x') {σ : AS} {new : List Value} {n : Nat}
    (h : newCells P lim i xt x σ = some (new, n)) :
    ∃ t d b, xt = some t ∧ Mode1 P i t d x' n b ∧ ∀ w, R K W0 N0 β σ w → σ.Any → ∃ new', (behind i.size elem x' n b).run P w = .ok new' w ∧ lRel β new new'.toList := by
  rcases newCells_spec (K := K) (W0 := W0) (N0 := N0) hZ hi hx h with ⟨k0, l, t, z, rfl, ⟨k, hk⟩, rfl, rfl, h1, h2, h3, rfl, hz, rfl⟩ | ⟨t, d, rfl, hd, hno, hlen, hrun⟩
  · refine ⟨t, .int k, true, rfl, ⟨hk, fun _ => ⟨⟨k, rfl⟩, k0, l, rfl, h1, h2, rfl, h3⟩, fun h => by cases h⟩, fun w hR hw => ?_⟩
    refine ⟨if l.toNat * i.size = 0 then #[] else Builtin.zeroCells z.cells l.toNat, ?_, ?_⟩
    · unfold behind
      by_cases hq : l.toNat * i.size = 0
      · rw [if_pos hq, if_pos hq]; rfl
      · rw [if_neg hq, if_neg hq, run_bind', run_zeroValue' _ w _ _ hi hz]; rfl
    · by_cases hq : l.toNat * i.size = 0
      · rw [if_pos hq]; trivial
      · rw [if_neg hq]
        exact arrRel_iff.1 (arrRel_map fun j => arrRel_getBang (cells_rel ((hZ _ _ _ hi hz).2 β)) _)
  · exact ⟨t, d, false, rfl, ⟨hd, fun h => (by cases h), fun _ => ⟨hno, hlen⟩⟩, fun w hR hw => hrun w hR hw⟩

/-- The heap behind an append to a row that may have room. -/
theorem sim2_append {β : Inj} (hZ : ZeroOk P) {lim : Nat} {argTypes : Array TypeId} {ty : TypeId} {args : List Value} {args' : Array Value} (ha : lRel β args args'.toList) :
    Sim2 P K W0 N0 β (fun σ => appendA P lim argTypes args σ) (Builtin.append_ argTypes ty args') := by
  intro σ w v σ' hw hR hr hf
  simp only [appendA] at hr
  split at hr
  case h_2 => cases hr
  rename_i sType base sLen sCap x h0
  obtain ⟨s', x', rfl⟩ : ∃ s' x', args' = #[s', x'] := by
    obtain ⟨l⟩ := args'
    match l, ha with
    | [a, b], _ => exact ⟨a, b, rfl⟩
    | [], h => exact h.elim
    | [_], h => exact h.2.elim
    | _ :: _ :: _ :: _, h => exact h.2.2.elim
  obtain ⟨hs, hx, _⟩ := ha
  cases hd : P.underlying sType with
  | none => rw [hd] at hr; cases hr
  | some dd =>
  rw [hd] at hr
  cases dd <;> first | cases hr | skip
  rename_i elem
  dsimp only at hr
  cases hi : P.info? elem with
  | none => rw [hi] at hr; cases hr
  | some i =>
  rw [hi] at hr
  dsimp only at hr
  cases hnc : newCells P lim i argTypes[1]? x σ with
  | none => rw [hnc] at hr; cases hr
  | some nc =>
  obtain ⟨new, n⟩ := nc
  rw [hnc] at hr
  dsimp only at hr
  unfold append1 at hr
  obtain ⟨t, d, b, h1, hm, hbeh⟩ := behind_run (K := K) (W0 := W0) (N0 := N0) hZ hi hx hnc
  obtain ⟨new1, hb1, hl1⟩ := hbeh w hR hw
  have hRd := hR.drawn (w.drawn + 1)
  obtain ⟨new2, hb2, hl2⟩ := hbeh (drawn1 w) hRd hw
  cases hle : Nat.ble (sLen + n) sCap with
  | true =>
    have hle' : sLen + n ≤ sCap := Nat.ble_eq ▸ hle
    simp only [hle, cond_true] at hr
    cases hs with
    | sliceNone _ _ =>
      simp only [Option.some.injEq, Prod.mk.injEq] at hr
      obtain ⟨rfl, rfl⟩ := hr
      exact ⟨_, w, β, by rw [run_append_in h0 h1 hd hi hm hle' hb1]; rfl, .refl _ _, hR, .sliceNone _ _⟩
    | slice _ hp hc =>
      rename_i p p' cap'
      have hcc : sCap ≤ cap' := by
        rcases hc with rfl | ⟨_, _, _, _, _, _, _, _, h⟩
        · exact Nat.le_refl _
        · exact h
      dsimp only at hr
      cases hst : σ.setCells lim (p.add (sLen * i.size)) new 0 with
      | none => rw [hst] at hr; cases hr
      | some σ1 =>
        rw [hst] at hr
        simp only [Option.some.injEq, Prod.mk.injEq] at hr
        obtain ⟨rfl, rfl⟩ := hr
        obtain ⟨_, w', β', e1, x1, R1, rfl⟩ := sim_storeCells (P := P) (hp.add (sLen * i.size)) hl1 lim σ w () σ1 hw hR (setCells_run new 0 σ σ1 hst) hf
        refine ⟨.slice (some p') (sLen + n) cap', w', β', ?_, x1, R1, .slice _ hp hc⟩
        rw [run_append_in h0 h1 hd hi hm (by omega) hb1]
        dsimp only
        rw [run_bind', e1]; rfl
    | void a' c' hsp =>
      rename_i p
      dsimp only at hr
      have hn0 : n = 0 := by omega
      have hadd : p.add (0 * i.size) = p := by simp [Addr.add]
      rw [hadd] at hr
      cases hnew : new with
      | nil =>
        rw [hnew] at hr hl1
        simp only [AS.setCells, Option.some.injEq, Prod.mk.injEq] at hr
        obtain ⟨rfl, rfl⟩ := hr
        have hn1 : new1.toList = [] := by
          cases h : new1.toList with
          | nil => rfl
          | cons a l => rw [h] at hl1; exact hl1.elim
        refine ⟨.slice (some a') (0 + n) c', w, β, ?_, .refl _ _, hR, by rw [hn0]; exact .void _ _ hsp⟩
        rw [run_append_in h0 h1 hd hi hm (by omega) hb1]
        dsimp only
        rw [hn1]; rfl
      | cons u l =>
        rw [hnew] at hr
        have : σ.setCells lim p (u :: l) 0 = none := by
          simp only [AS.setCells]
          have h2 : σ.setCell lim (p.add 0) u = none := by
            have : p.add 0 = p := by simp [Addr.add]
            rw [this]
            unfold AS.setCell
            split
            · rename_i h' _; rw [h'] at hsp; cases hsp
            · rfl
          rw [h2]; cases oneCell u <;> rfl
        rw [this] at hr; cases hr
  | false =>
    have hle' : ¬ sLen + n ≤ sCap := by intro h; rw [Nat.ble_eq_true_of_le h] at hle; cases hle
    simp only [hle, cond_false] at hr
    cases hcond : (Nat.ble ((sLen + n) * i.bytes) 70368744177664 && Nat.blt 0 i.bytes && i.zero.isSome && new.all oneCell && Nat.beq new.length (n * i.size)) with
    | false => simp [hcond] at hr
    | true =>
      simp only [hcond, cond_true] at hr
      simp only [Bool.and_eq_true] at hcond
      obtain ⟨⟨⟨⟨q1, q2⟩, q3⟩, q4⟩, q5⟩ := hcond
      have q1 : (sLen + n) * i.bytes ≤ 70368744177664 := Nat.ble_eq ▸ q1
      have q2 : 0 < i.bytes := blt_iff.1 q2
      have q5 : new.length = n * i.size := Nat.eq_of_beq_eq_true q5
      obtain ⟨z, hz⟩ := Option.isSome_iff_exists.1 q3
      have hzs := (hZ _ _ _ hi hz).1
      have hzr := (hZ _ _ _ hi hz).2
      -- a new row, in the model too
      have grow : ∀ {base' : Option Addr} {cap' : Nat} {old : List Value} {old' : Array Value} {σ1 : AS} {pv : Option Nat}, s' = .slice base' sLen cap' → ¬ sLen + n ≤ cap' →
          (Builtin.firstCells i.size sLen (.slice base' sLen cap')).run P (drawn1 w) = .ok old' (drawn1 w) → lRel β old old'.toList → old.length = sLen * i.size → R K W0 N0 β σ1 w → σ1.next = σ.next →
          (v, σ') = (.slice (some ⟨σ.next, 0, none⟩) (sLen + n) (sLen + n), σ1.push (.cells (old ++ new) true (some i.size, some elem) pv)) →
          ∃ v' w' β', (Builtin.append_ argTypes ty #[s', x']).run P w = .ok v' w' ∧ Ext β β' σ σ' ∧ R K W0 N0 β' σ' w' ∧ vRel β' v v' := by
        intro base' cap' old old' σ1 pv g1 g2 g3 g4 g5 g6 g7 g8
        subst g1
        obtain ⟨cap, c1, c2⟩ := run_append_grow (ty := ty) h0 h1 hd hi hz hm g2 q1 q2 g3 hb2
        simp only [Prod.mk.injEq] at g8
        obtain ⟨rfl, rfl⟩ := g8
        have hfn : β σ.next = none := hf _ (Nat.le_refl _) (by simp [g7])
        have hR1 := (g6.drawn (w.drawn + 1))
        have hlen : (old ++ new).length = (sLen + n) * i.size := by simp [g5, q5, Nat.add_mul]
        have hCs : (old' ++ new2 ++ Builtin.zeroCells z.cells (cap - (sLen + n))).size = cap * i.size := by
          have e1 := g4.length
          have e2 := hl2.length
          simp only [Array.length_toList] at e1 e2
          simp only [Array.size_append, size_zeroCells, hzs, ← e1, ← e2, g5, q5]
          rw [← Nat.add_mul, ← Nat.add_mul]
          congr 1; omega
        have hll : lRel β (old ++ new) (old' ++ new2).toList := by rw [Array.toList_append]; exact g4.append hl2
        obtain ⟨R2, hle2⟩ := hR1.push (x := .cells (old ++ new) true (some i.size, some elem) pv) (o' := .cells (old' ++ new2 ++ Builtin.zeroCells z.cells (cap - (sLen + n))) elem)
          (e := ⟨w.heap.size, 0, some ((old ++ new).length, i.size, cap * i.size)⟩) (by rw [g7]; exact hfn) rfl
          ⟨_, _, (0, 0), rfl, fun j hj => by
            obtain ⟨u, u1, u2⟩ := hll.getElem? j (List.getElem?_eq_getElem hj)
            refine ⟨u, ?_, u2⟩
            simp only [Nat.zero_add]
            have : j < (old' ++ new2).size := by have := hll.length; simp only [Array.length_toList] at this; omega
            rw [Array.getElem?_append_left this]
            rw [Array.getElem?_toList] at u1
            exact u1, fun _ j _ h => (by simp at h), by rw [hCs]; rfl, fun T hT => by cases hT; exact ⟨rfl, fun h => by cases h⟩⟩
        rw [g7] at R2 hle2
        refine ⟨_, _, _, c2, ⟨hle2, fun j e he => ?_⟩, R2, ?_⟩
        · split at he
          · exact .inr ⟨by omega, by simp [g7]; omega⟩
          · exact .inl he
        · refine .slice _ ⟨rfl, ⟨w.heap.size, 0, some ((old ++ new).length, i.size, cap * i.size)⟩, by simp, rfl⟩ ?_
          exact .inr ⟨⟨w.heap.size, 0, some ((old ++ new).length, i.size, cap * i.size)⟩, (old ++ new).length, i.size, cap * i.size, by simp, rfl, by rw [hlen]; simp, by simp, by omega⟩
      cases hs with
      | sliceNone _ _ =>
        cases hsl : Nat.beq sLen 0 with
        | false => simp [hsl] at hr
        | true =>
          simp only [hsl, cond_true, Option.some.injEq] at hr
          have hsl' : sLen = 0 := Nat.eq_of_beq_eq_true hsl
          exact grow (old := []) (old' := #[]) rfl hle' rfl trivial (by simp [hsl']) hR rfl (by rw [← hr]; rfl)
      | void a' c' hsp =>
        dsimp only at hr
        split at hr
        · rename_i h' _; rw [h'] at hsp; cases hsp
        · cases hr
      | slice _ hp hc =>
        rename_i p p' cap'
        dsimp only at hr
        split at hr
        case h_2 => cases hr
        rename_i c rw lo pv hspn hg
        cases hl : Nat.ble (p.off + sLen * i.size) c.length with
        | false => simp [hl] at hr
        | true =>
        have hl' : p.off + sLen * i.size ≤ c.length := Nat.ble_eq ▸ hl
        simp only [hl, cond_true] at hr
        obtain ⟨old', o1, o2⟩ := run_old (P := P) hRd hw hp hg hl' cap'
        have olen : ((c.drop p.off).take (sLen * i.size)).length = sLen * i.size := by simp; omega
        cases hex : σ.exact p sCap with
        | true =>
          simp only [hex, cond_true, Option.some.injEq] at hr
          have := exact_cap hR hc hex
          subst this
          exact grow rfl hle' o1 o2 olen hR rfl (by rw [← hr])
        | false =>
        simp only [hex, cond_false] at hr
        cases hcnd : (rw && Nat.ble lim p.block && (lo == (some i.size, some elem))) with
        | false => simp [hcnd] at hr
        | true =>
        simp only [hcnd, cond_true] at hr
        simp only [Bool.and_eq_true, beq_iff_eq] at hcnd
        obtain ⟨⟨rfl, _⟩, rfl⟩ := hcnd
        cases hk : σ.kill lim pv with
        | none => rw [hk] at hr; cases hr
        | some σ1 =>
        rw [hk] at hr
        dsimp only at hr
        obtain ⟨k1, k2, _⟩ := AS.kill_get hk
        have hcommon : ∃ X pv', (v, σ') = (.slice (some ⟨σ.next, 0, none⟩) (sLen + n) (sLen + n), (σ1.put p.block X).push (.cells ((c.drop p.off).take (sLen * i.size) ++ new) true (some i.size, some elem) pv')) ∧
            ((X = some (.cells c false (some i.size, some elem) none) ∧ pv' = some p.block ∧ sLen = sCap) ∨ (X = none ∧ pv' = none)) := by
          cases hq : Nat.beq sLen sCap with
          | true =>
            simp only [hq, cond_true, Option.some.injEq] at hr
            exact ⟨_, _, hr.symm, .inl ⟨rfl, rfl, Nat.eq_of_beq_eq_true hq⟩⟩
          | false =>
            simp only [hq, cond_false, Option.some.injEq] at hr
            exact ⟨_, _, hr.symm, .inr ⟨rfl, rfl⟩⟩
        obtain ⟨X, pv', hvσ, hX⟩ := hcommon
        have hget : ∀ j, (σ1.put p.block X).get j = if j = p.block then X else if pv = some j then none else σ.get j := by
          intro j
          rw [AS.get_put]
          split
          · rfl
          · exact k2 j
        have hweak : R K W0 N0 β (σ1.put p.block X) w := by
          refine hR.weaken fun j y hy => ?_
          rw [hget] at hy
          split at hy
          · rename_i hj; subst hj
            rcases hX with ⟨rfl, _, _⟩ | ⟨rfl, _⟩
            · simp only [Option.some.injEq] at hy
              exact .inr ⟨c, true, (some i.size, some elem), pv, hg, hy.symm⟩
            · cases hy
          · split at hy
            · cases hy
            · exact .inl hy
        by_cases hroom : sLen + n ≤ cap'
        · rcases hc with rfl | ⟨e, sz, esz, real, hb, ht, c1, c2, c3⟩
          · exact absurd hroom hle'
          · obtain ⟨_, e', he', rfl⟩ := hp
            rw [hb] at he'; cases he'
            obtain ⟨C, ty0, fr, hC, hcc, hrw, htl, htt⟩ := hR.cells hb hg
            obtain ⟨hN, hfr⟩ := hrw rfl
            rw [ht] at htl
            simp only [Option.map_some, Option.some.injEq, Prod.mk.injEq] at htl
            obtain ⟨rfl, rfl, rfl⟩ := htl
            have hn1 : new1.toList.length = n * i.size := by rw [← hl1.length, q5]
            have hmul : (sLen + n) * i.size ≤ cap' * i.size := Nat.mul_le_mul_right _ hroom
            rw [Nat.add_mul] at hmul
            have hadd : (⟨e.b, e.o + p.off, none⟩ : Addr).add (sLen * i.size) = ⟨e.b, e.o + p.off + sLen * i.size, none⟩ := by
              unfold Addr.add
              split
              · rename_i h; rw [h]; rfl
              · rfl
            obtain ⟨w', C', e1, e2, e3, e4, e5, e6, e7, e8⟩ := run_storeCells (P := P) new1.toList 0 w e.b (e.o + p.off + sLen * i.size) C ty0 fr hC (by omega) hfr (lRel_oneCell hl1 q4) hN hR.base
            simp only [Prod.mk.injEq] at hvσ
            obtain ⟨rfl, rfl⟩ := hvσ
            have hfn : β σ.next = none := hf _ (Nat.le_refl _) (by simp [k1])
            have hnx : (σ1.put p.block X).next = σ.next := k1
            have R2 := hweak.extend (oty := some elem) (fun T hT => by cases hT; exact (htt _ rfl).1) (pv := pv') (esz := i.size) (on := e.o + p.off) (all := (c.drop p.off).take (sLen * i.size) ++ new) hb (by rw [hnx]; exact hfn) hN hC e2 e3 hfr e6 e7 e8 (fun y hy => by
                rw [hget, if_pos rfl] at hy
                rcases hX with ⟨rfl, rfl, hss⟩ | ⟨rfl, _⟩
                · simp only [Option.some.injEq] at hy
                  refine ⟨c, (some i.size, some elem), hy.symm, fun j hj => e4 _ (.inl ?_), rfl⟩
                  rw [hss]; omega
                · cases hy)
              (fun j hj => by
                by_cases hj1 : j < sLen * i.size
                · have h3 : j < ((c.drop p.off).take (sLen * i.size)).length := by rw [olen]; exact hj1
                  obtain ⟨u, u1, u2⟩ := hcc (p.off + j) (by omega)
                  refine ⟨u, ?_, ?_⟩
                  · rw [e4 _ (.inl (by omega)), show e.o + p.off + j = e.o + (p.off + j) by omega]; exact u1
                  · rw [List.getElem_append_left h3]
                    simpa using u2
                · have h3 : ((c.drop p.off).take (sLen * i.size)).length ≤ j := by rw [olen]; omega
                  simp only [List.length_append, olen] at hj
                  have h4 : j - sLen * i.size < new.length := by omega
                  have h5 := e5 (j - sLen * i.size) (by rw [← hl1.length]; exact h4)
                  refine ⟨new1.toList[j - sLen * i.size]'(by rw [← hl1.length]; exact h4), ?_, ?_⟩
                  · rw [show e.o + p.off + j = e.o + p.off + sLen * i.size + 0 + (j - sLen * i.size) by omega]; exact h5
                  · rw [List.getElem_append_right h3]
                    simp only [olen]
                    exact hl1.get _ h4 _)
              (fun j ej y hj hbj hy heq => by
                rw [hget, if_neg hj] at hy
                split at hy
                · cases hy
                · rename_i hpj
                  exact hpj (hR.excl (Ne.symm hj) hb hbj hg hy rfl heq.symm))
            rw [hnx] at R2
            refine ⟨.slice (some ⟨e.b, e.o + p.off, none⟩) (sLen + n) cap', w', _, ?_, ⟨Inj.le_put hfn _, fun j e2 he2 => ?_⟩, R2, ?_⟩
            · rw [run_append_in h0 h1 hd hi hm hroom hb1]
              dsimp only
              rw [hadd, run_bind', e1]; rfl
            · unfold Inj.put at he2
              split at he2
              · exact .inr ⟨by omega, by simp [k1]; omega⟩
              · exact .inl he2
            · refine .slice _ ⟨rfl, ⟨e.b, e.o + p.off, some (((c.drop p.off).take (sLen * i.size) ++ new).length, i.size, C.size)⟩, by simp [Inj.put], rfl⟩ (.inr ⟨⟨e.b, e.o + p.off, some (((c.drop p.off).take (sLen * i.size) ++ new).length, i.size, C.size)⟩, ((c.drop p.off).take (sLen * i.size) ++ new).length, i.size, C.size, by simp [Inj.put], rfl, ?_, ?_, by omega⟩)
              · simp only [List.length_append, olen, q5, Nat.add_mul]; omega
              · simp only [Nat.add_zero]; omega
        · exact grow rfl hroom o1 o2 olen hweak k1 hvσ

end Go.Va
