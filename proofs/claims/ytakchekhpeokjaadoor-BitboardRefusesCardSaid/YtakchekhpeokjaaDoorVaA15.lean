/-
  SIMULATION: strings to slices; cap; then an operation of any kind.
-/
import Derived.Test.YtakchekhpeokjaaDoorVaU1
namespace Go.Va
open Go.RowKit
variable {P : Program} {K : FuncId → Code → Prop} {W0 : World} {N0 : Nat}

theorem modify_push (xs : Array Obj) (a : Obj) (f : Obj → Obj) : (xs.push a).modify xs.size f = xs.push (f a) := by
  apply Array.ext_getElem?
  intro i
  rw [Array.getElem?_modify, Array.getElem?_push, Array.getElem?_push]
  by_cases h : xs.size = i
  · subst h; simp
  · rw [if_neg h, if_neg (Ne.symm h), if_neg (Ne.symm h)]

/-- A new row with room behind its end. -/
theorem R.pushLoose {β : Inj} {σ : AS} {w : World} (hR : R K W0 N0 β σ w) (hf : β σ.next = none) {c : List Value} {C : Array Value} {ty : TypeId} {fr : Nat × Nat} {cap : Nat}
    (hc : ∀ i (_ : i < c.length), ∃ v', C[i]? = some v' ∧ vRel β c[i] v') (hfr : ∀ i, i < C.size → ¬ (fr.1 ≤ i ∧ i < fr.2)) (hcap : C.size = cap) (hle : c.length ≤ cap) :
    ∃ β', β.le β' ∧ (∀ i e, β' i = some e → β i = some e ∨ i = σ.next) ∧ R K W0 N0 β' (σ.push (.cells c true (some 1, some ty) none)) { drawn1 w with heap := w.heap.push (.cells C ty fr) } ∧
      vRel β' (.slice (some ⟨σ.next, 0, none⟩) c.length c.length) (.slice (some ⟨w.heap.size, 0, none⟩) c.length cap) := by
  have hR1 := hR.drawn (w.drawn + 1)
  obtain ⟨R2, hle2⟩ := hR1.push (x := .cells c true (some 1, some ty) none) (o' := .cells C ty fr) (e := ⟨w.heap.size, 0, some (c.length, 1, cap)⟩) hf rfl
    ⟨C, ty, fr, rfl, fun i hi => by simpa using hc i hi, fun _ => hfr, by rw [hcap]; rfl, fun T hT => by cases hT; exact ⟨rfl, fun h => by cases h⟩⟩
  refine ⟨_, hle2, fun i e he => ?_, R2, ?_⟩
  · split at he
    · rename_i h; exact .inr h
    · exact .inl he
  · refine .slice _ ⟨rfl, ⟨w.heap.size, 0, some (c.length, 1, cap)⟩, by simp, rfl⟩ (.inr ⟨⟨w.heap.size, 0, some (c.length, 1, cap)⟩, c.length, 1, cap, by simp, rfl, by simp, by simp, hle⟩)

theorem run_mark (h : Array Obj) (C : Array Value) (e : TypeId) (w : World) {n : Nat} (hC : C.size = n) :
    (markStringish ⟨h.size, 0, none⟩).run P { w with heap := h.push (.cells C e) } = .ok () { w with heap := h.push (.cells C e (n, n + 1)) } := by
  subst hC
  have h1 : (World.shape? { w with heap := h.push (.cells C e) } h.size) = some (e, C.size) := by
    simp [World.shape?]
  unfold markStringish
  rw [run_bind']
  have r1 : (shape h.size).run P { w with heap := h.push (.cells C e) } = .ok (some (e, C.size)) { w with heap := h.push (.cells C e) } := by
    show (Sem.shape h.size .pure).run P _ = _
    simp only [Sem.run, h1]
  rw [r1]
  dsimp only
  show (Sem.freeze ⟨h.size, C.size, none⟩ 1 (.pure ())).run P _ = _
  simp only [Sem.run, World.freeze, Nat.one_ne_zero, if_false, modify_push]
  rfl

theorem sim2_conv {β : Inj} {lim : Nat} {src dst : TypeId} {x x' : Value} (hx : vRel β x x') : Sim2 P K W0 N0 β (fun σ => convA P lim src dst x σ) (convert src dst x') := by
  by_cases hp : ∃ a, x = .pointer (some a)
  · obtain ⟨a, rfl⟩ := hp
    cases hx with
    | ptr ha => exact sim2_ptrConv ha
  by_cases hs : ∃ s, x = .string s
  case neg =>
    intro σ w v σ' hw hR hr hf
    have hr' : (bif convOk P src dst x then runA P lim (convert src dst x) σ else none) = some (v, σ') := by
      cases x <;> first | exact hr | exact absurd ⟨_, rfl⟩ hs | (rename_i o; cases o <;> first | exact hr | exact absurd ⟨_, rfl⟩ hp)
    cases ho : convOk P src dst x with
    | false => rw [ho] at hr'; cases hr'
    | true =>
      rw [ho] at hr'
      exact sim_convert hx ho lim σ w v σ' hw hR hr' hf
  case pos =>
    obtain ⟨s, rfl⟩ := hs
    cases hx
    intro σ w v σ' hw hR hr hf
    simp only [convA] at hr
    have gen : (bif convOk P src dst (.string s) then runA P lim (convert src dst (.string s)) σ else none) = some (v, σ') →
        ∃ v' w' β', (convert src dst (.string s)).run P w = .ok v' w' ∧ Ext β β' σ σ' ∧ R K W0 N0 β' σ' w' ∧ vRel β' v v' := by
      intro hr'
      cases ho : convOk P src dst (.string s) with
      | false => rw [ho] at hr'; cases hr'
      | true =>
        rw [ho] at hr'
        exact sim_convert (.string s) ho lim σ w v σ' hw hR hr' hf
    split at hr
    · rename_i e hd1 hd2
      have r1 := run_underlying' src w _ hd1
      have r2 := run_underlying' dst w _ hd2
      split at hr
      · rename_i hd3
        have r3 := run_underlying' e w _ hd3
        simp only [Option.some.injEq, Prod.mk.injEq] at hr
        obtain ⟨rfl, rfl⟩ := hr
        have hfn : β σ.next = none := hf _ (Nat.le_refl _) (by simp)
        have hlen : (s.data.toList.map fun b => Value.int .u8 (b.toNat : Int)).length = s.size := by rw [List.length_map, Array.length_toList]; rfl
        have hq : ∃ cap, s.size ≤ cap ∧ (convert src dst (.string s)).run P w = .ok (.slice (some ⟨w.heap.size, 0, none⟩) s.size cap)
            { drawn1 w with heap := w.heap.push (.cells ((s.data.map fun b => Value.int .u8 (b.toNat : Int)) ++ Array.replicate (cap - s.size) (.int .u8 0)) e (cap, cap + 1)) } := by
          refine ⟨s.size + w.tape w.drawn (.appendCap s.size 0 e) % (2 ^ 63 - s.size), by omega, ?_⟩
          unfold convert
          rw [run_bind', r1]
          dsimp only
          rw [run_bind', r2]
          dsimp only
          rw [run_bind', r3]
          dsimp only
          unfold Conv.stringToBytes
          rw [run_bind']
          have rc : (choose (.appendCap s.size 0 e)).run P w = .ok (s.size + w.tape w.drawn (.appendCap s.size 0 e) % (2 ^ 63 - s.size)) (drawn1 w) := rfl
          rw [rc]
          have hcp : s.size ≤ s.size + w.tape w.drawn (.appendCap s.size 0 e) % (2 ^ 63 - s.size) := by omega
          generalize s.size + w.tape w.drawn (.appendCap s.size 0 e) % (2 ^ 63 - s.size) = cap at hcp
          dsimp only
          rw [run_bind']
          have rn : (newRow e ((s.data.map fun b => Value.int .u8 (b.toNat : Int)) ++ Array.replicate (cap - s.size) (.int .u8 0))).run P (drawn1 w) =
            .ok ⟨w.heap.size, 0, none⟩ { drawn1 w with heap := w.heap.push (.cells ((s.data.map fun b => Value.int .u8 (b.toNat : Int)) ++ Array.replicate (cap - s.size) (.int .u8 0)) e) } := rfl
          rw [rn]
          dsimp only
          rw [run_bind', run_mark (n := cap) w.heap _ e (drawn1 w) (by
            rw [Array.size_append, Array.size_map, Array.size_replicate]
            show s.size + (cap - s.size) = cap
            omega)]
          rfl
        obtain ⟨cap, c1, c2⟩ := hq
        obtain ⟨β', b1, b2, b3, b4⟩ := hR.pushLoose hfn (c := s.data.toList.map fun b => Value.int .u8 (b.toNat : Int)) (C := (s.data.map fun b => Value.int .u8 (b.toNat : Int)) ++ Array.replicate (cap - s.size) (.int .u8 0)) (ty := e) (fr := (cap, cap + 1)) (cap := cap)
          (fun j hj => by
            refine ⟨_, ?_, plain_rel 1 _ (by simp [plainB])⟩
            have hj' : j < (s.data.map fun b => Value.int .u8 (b.toNat : Int)).size := by rw [Array.size_map]; rw [List.length_map, Array.length_toList] at hj; exact hj
            rw [Array.getElem?_append_left hj', Array.getElem?_eq_getElem hj']
            simp)
          (fun j hj h => by
            rw [Array.size_append, Array.size_map, Array.size_replicate] at hj
            have : s.data.size = s.size := rfl
            dsimp only at h
            omega)
          (by
            rw [Array.size_append, Array.size_map, Array.size_replicate]
            show s.size + (cap - s.size) = cap
            omega) (by rw [hlen]; exact c1)
        rw [hlen] at b4
        refine ⟨_, _, β', c2, ⟨b1, fun j e2 he2 => ?_⟩, b3, b4⟩
        rcases b2 j e2 he2 with h | rfl
        · exact .inl h
        · exact .inr ⟨Nat.le_refl _, by simp⟩
      · rename_i hd3
        have r3 := run_underlying' e w _ hd3
        simp only [Option.some.injEq, Prod.mk.injEq] at hr
        obtain ⟨rfl, rfl⟩ := hr
        have hfn : β σ.next = none := hf _ (Nat.le_refl _) (by simp)
        have hpl : ∀ (b i : Nat) (acc : Array Value), (∀ k (h : k < acc.size), plainB 1 acc[k] = true) → ∀ k (h : k < (Conv.runesFrom s b i acc).size), plainB 1 (Conv.runesFrom s b i acc)[k] = true := by
          intro b
          induction b with
          | zero => intro i acc h k hk; exact h k hk
          | succ b ih =>
            intro i acc h
            unfold Conv.runesFrom
            split
            · refine ih _ _ fun k hk => ?_
              rw [Array.getElem_push]
              split
              · exact h k _
              · rfl
            · exact h
        generalize hel : Conv.runesFrom s s.size 0 #[] = el at *
        have hel1 : ∀ k (h : k < el.size), plainB 1 el[k] = true := by
          rw [← hel]
          exact hpl _ _ _ fun k h => by simp at h
        have hq : ∃ cap, el.size ≤ cap ∧ (convert src dst (.string s)).run P w = .ok (.slice (some ⟨w.heap.size, 0, none⟩) el.size cap)
            { drawn1 w with heap := w.heap.push (.cells (el ++ Array.replicate (cap - el.size) (.int .i32 0)) e) } := by
          refine ⟨el.size + w.tape w.drawn (.appendCap el.size 0 e) % (2 ^ 63 - el.size), by omega, ?_⟩
          unfold convert
          rw [run_bind', r1]
          dsimp only
          rw [run_bind', r2]
          dsimp only
          rw [run_bind', r3]
          dsimp only
          unfold Conv.stringToRunes
          rw [hel]
          rfl
        obtain ⟨cap, c1, c2⟩ := hq
        have hsz : (el ++ Array.replicate (cap - el.size) (Value.int .i32 0)).size = cap := by
          rw [Array.size_append, Array.size_replicate]; omega
        obtain ⟨β', b1, b2, b3, b4⟩ := hR.pushLoose hfn (c := el.toList) (C := el ++ Array.replicate (cap - el.size) (.int .i32 0)) (ty := e) (fr := (0, 0)) (cap := cap)
          (fun j hj => by
            rw [Array.length_toList] at hj
            refine ⟨el[j], ?_, ?_⟩
            · rw [Array.getElem?_append_left hj, Array.getElem?_eq_getElem hj]
            · rw [Array.getElem_toList]; exact plain_rel 1 _ (hel1 j hj))
          (fun j hj h => by simp at h) hsz (by rw [Array.length_toList]; exact c1)
        rw [Array.length_toList] at b4
        refine ⟨_, _, β', c2, ⟨b1, fun j e2 he2 => ?_⟩, b3, by rw [Array.length_toList]; exact b4⟩
        rcases b2 j e2 he2 with h | rfl
        · exact .inl h
        · exact .inr ⟨Nat.le_refl _, by simp⟩
      · cases hr
    · exact gen hr

end Go.Va
