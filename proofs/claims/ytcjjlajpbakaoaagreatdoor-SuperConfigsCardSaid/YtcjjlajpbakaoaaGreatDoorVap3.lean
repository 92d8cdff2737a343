/-
  An executable interpreter over the program's form and what it stands for, part 3.
-/
import Derived.Test.YtcjjlajpbakaoaaGreatDoorVap2
import Derived.StillTail

/-
  CELLS AT REST: how there come to be more of them.
-/
namespace Go.Va
open Go.RowKit
variable {P : Program} {K : FuncId → Code → Prop} {W0 : World} {N0 : Nat}

theorem R.below {β : Inj} {σ : AS} {w w' : World} (hR : R K W0 N0 β σ w) (hb : Below w.heap.size w w') : R K W0 N0 β σ w' := by
  have hsz : w.heap.size ≤ w'.heap.size := hb.size
  have get : ∀ j, j < w.heap.size → w'.heap[j]? = w.heap[j]? := hb.block
  exact
  { cells := fun hb' hg => by
      obtain ⟨C, ty, fr, h1, h2, h3, h4⟩ := hR.cells hb' hg
      exact ⟨C, ty, fr, by rw [get _ (hR.lt hb')]; exact h1, h2, h3, h4⟩
    obj := fun hb' hg => by
      obtain ⟨h1, h2, o', h3, h4⟩ := hR.obj hb' hg
      exact ⟨h1, h2, o', by rw [get _ (hR.lt hb')]; exact h3, h4⟩
    excl := hR.excl
    lt := fun hb' => by have := hR.lt hb'; omega
    base := hR.base.trans (hb.mono hR.top)
    top := by have := hR.top; omega
    code := hR.code
    zr := hR.zr.keep rfl rfl (fun b j c hc => get _ (hR.zlt hc)) hsz (fun _ _ _ hb hg hx => .inl ⟨_, _, _, hb, hg, hx, fun h => h, rfl⟩) fun _ _ _ _ _ hb hg => ⟨hb, hg⟩ }

/-- More is at rest; rows have become growing lists, or are forgotten. -/
theorem R.rez {β β' : Inj} {σ σ' : AS} {w : World} (hR : R K W0 N0 β σ w) (hm : β'.m = β.m) (hle : β.le β') (hs : ∀ j x, σ'.get j = some x → σ.get j = some x ∨ (¬ NT x ∧ ∃ y, σ.get j = some y)) (hz : ZR N0 β' σ' w) :
    R K W0 N0 β' σ' w where
  cells := fun {id e c rw lo pv} hb hg => by
    rw [hm] at hb
    rcases hs _ _ hg with h | ⟨h, _⟩
    · obtain ⟨C, ty, fr, h1, h2, h3, h4⟩ := hR.cells hb h
      exact ⟨C, ty, fr, h1, fun i hi => by obtain ⟨v', a, b⟩ := h2 i hi; exact ⟨v', a, b.mono hle⟩, h3, h4⟩
    · exact absurd trivial h
  obj := fun {id e o} hb hg => by
    rw [hm] at hb
    rcases hs _ _ hg with h | ⟨h, _⟩
    · obtain ⟨h1, h2, o', h3, h4⟩ := hR.obj hb h
      exact ⟨h1, h2, o', h3, h4.mono hle⟩
    · exact absurd trivial h
  excl := fun {i j ei ej x y} hij hbi hbj hgi hgj hx heq => by
    rw [hm] at hbi hbj
    have hi : σ.get i = some x := by
      rcases hs _ _ hgi with h | ⟨h, _⟩
      · exact h
      · cases x <;> first | exact absurd trivial h | cases hx
    have hj : ∃ y, σ.get j = some y := by
      rcases hs _ _ hgj with h | ⟨_, h⟩
      · exact ⟨_, h⟩
      · exact h
    obtain ⟨y', hj⟩ := hj
    exact hR.excl hij hbi hbj hi hj hx heq
  lt := fun hb => by rw [hm] at hb; exact hR.lt hb
  base := hR.base
  top := hR.top
  code := fun {id e r} hb hg => by
    rw [hm] at hb
    rcases hs _ _ hg with h | ⟨h, _⟩
    · exact hR.code hb h
    · exact absurd trivial h
  zr := hz

/-- The cells of a block, from lo on and below hi, of the growing list T. -/
def zAdd (z : Nat → Nat → Option ZC) (B : Nat) (C : Array Value) (lo hi : Nat) (tg : Nat → Option (Nat × Nat × Nat)) : Nat → Nat → Option ZC :=
  fun b j => if b = B ∧ lo ≤ j ∧ j < hi then (C[j]?).map fun v => ⟨v, tg j⟩ else z b j

theorem zAdd_in {z : Nat → Nat → Option ZC} {B : Nat} {C : Array Value} {lo hi : Nat} {tg : Nat → Option (Nat × Nat × Nat)} {j : Nat} (h1 : lo ≤ j) (h2 : j < hi) : zAdd z B C lo hi tg B j = (C[j]?).map fun v => ⟨v, tg j⟩ := by
  unfold zAdd; rw [if_pos ⟨rfl, h1, h2⟩]
theorem zAdd_out {z : Nat → Nat → Option ZC} {B : Nat} {C : Array Value} {lo hi : Nat} {tg : Nat → Option (Nat × Nat × Nat)} {b j : Nat} (h : ¬ (b = B ∧ lo ≤ j ∧ j < hi)) : zAdd z B C lo hi tg b j = z b j := by
  unfold zAdd; rw [if_neg h]
theorem zAdd_inv {z : Nat → Nat → Option ZC} {B : Nat} {C : Array Value} {lo hi : Nat} {tg : Nat → Option (Nat × Nat × Nat)} {b j : Nat} {c : ZC} (h : zAdd z B C lo hi tg b j = some c) :
    (b = B ∧ lo ≤ j ∧ j < hi ∧ C[j]? = some c.v ∧ c.tag = tg j) ∨ (¬ (b = B ∧ lo ≤ j ∧ j < hi) ∧ z b j = some c) := by
  by_cases hh : b = B ∧ lo ≤ j ∧ j < hi
  · obtain ⟨rfl, h1, h2⟩ := hh
    rw [zAdd_in h1 h2] at h
    cases hc : C[j]? with
    | none => rw [hc] at h; cases h
    | some v => rw [hc] at h; cases h; exact .inl ⟨rfl, h1, h2, rfl, rfl⟩
  · rw [zAdd_out hh] at h; exact .inr ⟨hh, h⟩

/-- A growing list elsewhere stays what it is. -/
theorem TailOk.other {β β' : Inj} {σ σ' : AS} {w w' : World} {e : Ent} {n esz : Nat} {T : TypeId} (h : TailOk N0 β σ e n esz T w) {B lo hi : Nat} {C : Array Value} {tg : Nat → Option (Nat × Nat × Nat)} (hz : β'.z = zAdd β.z B C lo hi tg)
    (htg : ∀ j k real, tg j ≠ some (e.b, k, real)) (hB : ∀ b o, (∀ i, i < n → ∃ v real, β.z b (o + i) = some ⟨v, some (e.b, i, real)⟩) → (∀ j, o + n ≤ j → β.z b j = none) → b ≠ B)
    (hh : ∀ b, b ≠ B → (∃ j c, β.z b j = some c) → w'.heap[b]? = w.heap[b]?)
    (hn : ∀ id e' x, β' id = some e' → σ'.get id = some x → NT x → ∃ id0 e0 y, β id0 = some e0 ∧ σ.get id0 = some y ∧ NT y ∧ e0.b = e'.b ∨ e'.b = B) : TailOk N0 β' σ' e n esz T w' := by
  obtain ⟨k0, k1, k2, b, o, Cb, fr, k3, k4, k5, k6, k7, k8, k9⟩ := h
  obtain ⟨v0, hv0⟩ := k6 0 k0
  have hbB : b ≠ B := hB b o (fun i hi => by obtain ⟨v, hv⟩ := k6 i hi; exact ⟨v, _, hv⟩) k7
  have hzb : ∀ j, β'.z b j = β.z b j := fun j => by rw [hz, zAdd_out (by rintro ⟨h, _⟩; exact hbB h)]
  refine ⟨k0, k1, k2, b, o, Cb, fr, by rw [hh b hbB ⟨_, _, hv0⟩]; exact k3, k4, k5, fun i hi => by rw [hzb]; exact k6 i hi, fun j hj => by rw [hzb]; exact k7 j hj, fun b' j' v k real hc => ?_, fun id' e' x hb' hg' hx heq => ?_⟩
  · rw [hz] at hc
    rcases zAdd_inv hc with ⟨_, _, _, _, h5⟩ | ⟨_, h5⟩
    · exact absurd h5.symm (htg _ _ _)
    · exact k8 _ _ _ _ _ h5
  · obtain ⟨id0, e0, y, h1⟩ := hn _ _ _ hb' hg' hx
    rcases h1 with ⟨h1, h2, h3, h4⟩ | h1
    · exact k9 _ _ _ h1 h2 h3 (h4.trans heq)
    · exact hbB (heq.symm.trans h1)

/-- A NEW LIST THAT MAY GROW. -/
theorem R.growNew {β : Inj} {σ : AS} {w : World} (hR : R K W0 N0 β σ w) (hf : β σ.next = none) {C : Array Value} {T : TypeId} {n esz : Nat} (hn : 0 < n) (he : 0 < esz) (hC : n ≤ C.size) :
    R K W0 N0 ⟨(β.put σ.next ⟨w.heap.size, 0, some (n, esz, C.size)⟩).m, zAdd β.z w.heap.size C 0 n fun j => some (w.heap.size, j, C.size), β.lo⟩ (σ.push (.tail n esz T)) { w with heap := w.heap.push (.cells C T (0, 0)) } ∧
      β.le ⟨(β.put σ.next ⟨w.heap.size, 0, some (n, esz, C.size)⟩).m, zAdd β.z w.heap.size C 0 n fun j => some (w.heap.size, j, C.size), β.lo⟩ := by
  have zlt : ∀ {b j c}, β.z b j = some c → b < w.heap.size := fun h => hR.zlt h
  have hle : β.le ⟨(β.put σ.next ⟨w.heap.size, 0, some (n, esz, C.size)⟩).m, zAdd β.z w.heap.size C 0 n fun j => some (w.heap.size, j, C.size), β.lo⟩ := by
    refine ⟨(Inj.le_put hf _).m, fun b j c h => ?_, rfl, fun b j c h hb => ?_, fun b j v T' k r h hb => ?_⟩
    · dsimp only
      rw [zAdd_out (by rintro ⟨rfl, _⟩; have := zlt h; omega)]; exact h
    · dsimp only at h
      rcases zAdd_inv h with ⟨rfl, _⟩ | ⟨_, h⟩
      · have := hR.zr.lo; have := hR.top; omega
      · exact h
    · dsimp only at h
      rcases zAdd_inv h with ⟨_, _, _, _, h5⟩ | ⟨_, h⟩
      · cases h5; have := hR.zr.lo; have := hR.top; omega
      · exact h
  refine ⟨?_, hle⟩
  have heap : ∀ r, (w.heap.push (Obj.cells C T (0, 0)))[r]? = if r = w.heap.size then some (.cells C T (0, 0)) else w.heap[r]? := fun r => by rw [Array.getElem?_push]
  have self : (β.put σ.next ⟨w.heap.size, 0, some (n, esz, C.size)⟩).m σ.next = some ⟨w.heap.size, 0, some (n, esz, C.size)⟩ := Inj.put_self ..
  have ne : ∀ {i}, i ≠ σ.next → (β.put σ.next ⟨w.heap.size, 0, some (n, esz, C.size)⟩).m i = β i := fun h => Inj.put_ne _ _ h
  have old : ∀ {i e x}, (β.put σ.next ⟨w.heap.size, 0, some (n, esz, C.size)⟩).m i = some e → (σ.push (.tail n esz T)).get i = some x → (i = σ.next ∧ e = ⟨w.heap.size, 0, some (n, esz, C.size)⟩ ∧ x = .tail n esz T) ∨ (i ≠ σ.next ∧ β i = some e ∧ σ.get i = some x) := by
    intro i e x hb hg
    rw [AS.get_push] at hg
    by_cases hi : i = σ.next
    · subst hi
      rw [self] at hb; rw [if_pos rfl] at hg
      cases hb; cases hg
      exact .inl ⟨rfl, rfl, rfl⟩
    · rw [ne hi] at hb; rw [if_neg hi] at hg
      exact .inr ⟨hi, hb, hg⟩
  have hzr : ZR N0 ⟨(β.put σ.next ⟨w.heap.size, 0, some (n, esz, C.size)⟩).m, zAdd β.z w.heap.size C 0 n fun j => some (w.heap.size, j, C.size), β.lo⟩ (σ.push (.tail n esz T)) { w with heap := w.heap.push (.cells C T (0, 0)) } :=
  { lo := hR.zr.lo
    zone := fun {b j c} hc => by
      dsimp only at hc
      rcases zAdd_inv hc with ⟨rfl, _, _, h4, _⟩ | ⟨_, h5⟩
      · exact ⟨C, T, (0, 0), by dsimp only; rw [heap, if_pos rfl], h4⟩
      · obtain ⟨C', ty, fr, h1, h2⟩ := hR.zr.zone h5
        exact ⟨C', ty, fr, by dsimp only; rw [heap, if_neg (by have := zlt h5; omega)]; exact h1, h2⟩
    own := fun {id e x} hb hg hx j => by
      rcases old hb hg with ⟨_, _, rfl⟩ | ⟨_, h2, h3⟩
      · cases hx
      · dsimp only
        rw [zAdd_out (by rintro ⟨h, _⟩; have := hR.lt h2; omega)]
        exact hR.zr.own h2 h3 hx j
    tl := fun {id e m es T'} hb hg => by
      rcases old hb hg with ⟨_, rfl, h3⟩ | ⟨_, h2, h3⟩
      · cases h3
        refine ⟨hn, he, ⟨⟨_, _, rfl⟩, hR.top⟩, w.heap.size, 0, C, (0, 0), by dsimp only; rw [heap, if_pos rfl], hR.top, FrOk.zero, fun i hi => ?_, fun j hj => ?_, fun b' j' v k real hc => ?_, fun id' e' x hb' hg' hx heq => ?_⟩
        · have hi' : i < C.size := by omega
          exact ⟨C[i], by dsimp only; rw [Nat.zero_add, zAdd_in (Nat.zero_le _) hi, Array.getElem?_eq_getElem hi']; rfl⟩
        · dsimp only
          rw [zAdd_out (by omega)]
          cases hz : β.z w.heap.size j with
          | none => rfl
          | some c => have := zlt hz; omega
        · dsimp only at hc
          rcases zAdd_inv hc with ⟨rfl, _, h3, _, h5⟩ | ⟨_, h5⟩
          · cases h5; exact ⟨h3, fun _ => ⟨rfl, (Nat.zero_add _).symm⟩⟩
          · have := (hR.zr.tags h5).1; omega
        · rcases old hb' hg' with ⟨_, _, rfl⟩ | ⟨_, h2, _⟩
          · exact hx
          · have := hR.lt h2; omega
      · have hlt := hR.lt h2
        refine (hR.zr.tl h2 h3).other rfl (fun j k real h => ?_) (fun b o h _ => by obtain ⟨v, r, hv⟩ := h 0 (hR.zr.tl h2 h3).1; have := zlt hv; omega) (fun b hb _ => by dsimp only; rw [heap, if_neg hb]) fun id' e' x hb' hg' hx => ?_
        · injection h with h; injection h with h _; omega
        · rcases old hb' hg' with ⟨_, _, rfl⟩ | ⟨_, h2, h3⟩
          · exact hx.elim
          · exact ⟨_, _, _, .inl ⟨h2, h3, hx, rfl⟩⟩
    uni := fun {i j ei ej m es T' m' es' T''} hij hbi hbj hgi hgj heq => by
      rcases old hbi hgi with ⟨h1, rfl, _⟩ | ⟨_, h2, h3⟩
      · rcases old hbj hgj with ⟨h4, _, _⟩ | ⟨_, h5, _⟩
        · exact hij (h1.trans h4.symm)
        · have := hR.lt h5; dsimp only at heq; omega
      · rcases old hbj hgj with ⟨_, rfl, _⟩ | ⟨_, h5, h6⟩
        · have := hR.lt h2; dsimp only at heq; omega
        · exact hR.zr.uni hij h2 h5 h3 h6 heq
    tags := fun {b j v T' k real} hc => by
      show T' < (w.heap.push _).size ∧ _
      rw [Array.size_push]
      dsimp only at hc
      rcases zAdd_inv hc with ⟨rfl, _, _, _, h5⟩ | ⟨_, h5⟩
      · cases h5; exact ⟨by omega, _, _, hc⟩
      · obtain ⟨h6, i, c, h7⟩ := hR.zr.tags h5
        exact ⟨by omega, i, c, by dsimp only; rw [zAdd_out (by rintro ⟨h, _⟩; omega)]; exact h7⟩ }
  have R2 : R K W0 N0 (β.put σ.next ⟨w.heap.size, 0, some (n, esz, C.size)⟩) (σ.put σ.next none) { w with heap := w.heap.push (.cells C T (0, 0)) } := by
    have hb : Below w.heap.size w { w with heap := w.heap.push (.cells C T (0, 0)) } := (Below.refl _ _).alloc (Nat.le_refl _) _
    have R0 := hR.below hb
    have old2 : ∀ {i e x}, (β.put σ.next ⟨w.heap.size, 0, some (n, esz, C.size)⟩).m i = some e → (σ.put σ.next none).get i = some x → β i = some e ∧ σ.get i = some x := by
      intro i e x hb hg
      rw [AS.get_put] at hg
      split at hg
      · cases hg
      · rename_i hi
        rw [ne hi] at hb
        exact ⟨hb, hg⟩
    have hle2 : β.le (β.put σ.next ⟨w.heap.size, 0, some (n, esz, C.size)⟩) := Inj.le_put hf _
    exact
    { cells := fun hb hg => by
        obtain ⟨h1, h2⟩ := old2 hb hg
        obtain ⟨C', ty, fr, k1, k2, k3, k4⟩ := R0.cells h1 h2
        exact ⟨C', ty, fr, k1, fun i hi => by obtain ⟨v', a, b⟩ := k2 i hi; exact ⟨v', a, b.mono hle2⟩, k3, k4⟩
      obj := fun hb hg => by
        obtain ⟨h1, h2⟩ := old2 hb hg
        obtain ⟨k1, k2, o', k3, k4⟩ := R0.obj h1 h2
        exact ⟨k1, k2, o', k3, k4.mono hle2⟩
      excl := fun hij hbi hbj hgi hgj hx heq => by
        obtain ⟨h1, h2⟩ := old2 hbi hgi
        obtain ⟨h3, h4⟩ := old2 hbj hgj
        exact R0.excl hij h1 h3 h2 h4 hx heq
      lt := fun {id e} hb => by
        by_cases hi : id = σ.next
        · subst hi; rw [self] at hb; cases hb
          show w.heap.size < (w.heap.push _).size
          rw [Array.size_push]; omega
        · rw [ne hi] at hb; exact R0.lt hb
      base := R0.base
      top := R0.top
      code := fun hb hg => by
        obtain ⟨h1, h2⟩ := old2 hb hg
        exact R0.code h1 h2
      zr := R0.zr.keep rfl rfl (fun _ _ _ _ => rfl) (Nat.le_refl _) (fun _ _ _ hb hg hx => .inl ⟨_, _, _, (old2 hb hg).1, (old2 hb hg).2, hx, fun h => h, rfl⟩) fun _ _ _ _ _ hb hg => old2 hb hg }
  have hle3 : (β.put σ.next ⟨w.heap.size, 0, some (n, esz, C.size)⟩).le ⟨(β.put σ.next ⟨w.heap.size, 0, some (n, esz, C.size)⟩).m, zAdd β.z w.heap.size C 0 n fun j => some (w.heap.size, j, C.size), β.lo⟩ :=
    ⟨fun _ _ h => h, fun b j c h => hle.z b j c h, rfl, fun b j c h hb => hle.zn b j c h hb, fun b j v T k r h hb => hle.tn b j v T k r h hb⟩
  exact
  { cells := fun {id e c rw lo pv} hb hg => by
      rcases old hb hg with ⟨_, _, h⟩ | ⟨hi, h2, h3⟩
      · cases h
      · obtain ⟨C', ty, fr, k1, k2, k3, k4⟩ := R2.cells hb (by rw [AS.get_put, if_neg hi]; exact h3)
        exact ⟨C', ty, fr, k1, fun i hi => by obtain ⟨v', a, b⟩ := k2 i hi; exact ⟨v', a, b.mono hle3⟩, k3, k4⟩
    obj := fun {id e o} hb hg => by
      rcases old hb hg with ⟨_, _, h⟩ | ⟨hi, h2, h3⟩
      · cases h
      · obtain ⟨k1, k2, o', k3, k4⟩ := R2.obj hb (by rw [AS.get_put, if_neg hi]; exact h3)
        exact ⟨k1, k2, o', k3, k4.mono hle3⟩
    excl := fun {i j ei ej x y} hij hbi hbj hgi hgj hx heq => by
      rcases old hbi hgi with ⟨_, _, rfl⟩ | ⟨hi, h2, h3⟩
      · cases hx
      · rcases old hbj hgj with ⟨_, rfl, _⟩ | ⟨hj, h5, h6⟩
        · have := hR.lt h2; dsimp only at heq; omega
        · exact hR.excl hij h2 h5 h3 h6 hx heq
    lt := R2.lt
    base := R2.base
    top := R2.top
    code := fun {id e r} hb hg => by
      rcases old hb hg with ⟨_, _, h⟩ | ⟨hi, h2, h3⟩
      · cases h
      · exact hR.code h2 h3
    zr := hzr }

/-- Two growing lists lie in two blocks. -/
theorem tails_apart {β : Inj} {T1 T2 b o n b' o' n' : Nat} (h : T1 ≠ T2) (h0 : 0 < n) (h0' : 0 < n') (h1 : ∀ i, i < n → ∃ v real, β.z b (o + i) = some ⟨v, some (T1, i, real)⟩) (h2 : ∀ j, o + n ≤ j → β.z b j = none)
    (h1' : ∀ i, i < n' → ∃ v real, β.z b' (o' + i) = some ⟨v, some (T2, i, real)⟩) (h2' : ∀ j, o' + n' ≤ j → β.z b' j = none) : b ≠ b' := by
  rintro rfl
  obtain ⟨v, real, hv⟩ := h1 (n - 1) (by omega)
  obtain ⟨v', real', hv'⟩ := h1' (n' - 1) (by omega)
  rcases Nat.lt_trichotomy (o + (n - 1)) (o' + (n' - 1)) with hlt | heq | hgt
  · rw [h2 _ (by omega)] at hv'; cases hv'
  · rw [heq, hv'] at hv
    injection hv with hv; injection hv with _ hv; injection hv with hv; injection hv with hv _
    exact h hv.symm
  · rw [h2' _ (by omega)] at hv; cases hv

/-- A GROWING LIST HAS GROWN: into a new block, or behind its end; or a row has become one. What is new at rest: the cells from lo on and below hi of the block B, all of the list at t. -/
theorem R.grown {β : Inj} {σ : AS} {w : World} (hR : R K W0 N0 β σ w) {t : Nat} {x : Ent} {y : AObj} {n esz : Nat} {T : TypeId} (hx : β t = some x) (hy : σ.get t = some y) (hn : 0 < n) (he : 0 < esz) (htl : (∃ a q, x.tail = some (a, esz, q)) ∧ N0 ≤ x.b)
    {B o lo : Nat} {C : Array Value} {fr : Nat × Nat} (hC : w.heap[B]? = some (.cells C T fr)) (hN : N0 ≤ B) (hfr : FrOk fr C.size) (hsz : o + n ≤ C.size) (hlo : o ≤ lo) (hlo2 : lo ≤ o + n)
    (hold : ∀ i, o + i < lo → ∃ v, β.z B (o + i) = some ⟨v, some (x.b, i, C.size)⟩) (hbeh : ∀ j, lo ≤ j → β.z B j = none)
    (htg : ∀ b' j' v k real, β.z b' j' = some ⟨v, some (x.b, k, real)⟩ → k < n ∧ (k + 1 = n → b' = B ∧ j' = o + k))
    (hnt : ∀ id' e' z, β id' = some e' → σ.get id' = some z → NT z → id' ≠ t → e'.b ≠ B) (hT : x.b = B ∨ ∃ i c, β.z x.b i = some c)
    (huni : ∀ j ej n' esz' T', j ≠ t → β j = some ej → σ.get j = some (.tail n' esz' T') → ej.b ≠ x.b)
    (hap : ∀ j ej n' esz' T', j ≠ t → β j = some ej → σ.get j = some (.tail n' esz' T') → ∀ b o', (∀ i, i < n' → ∃ v real, β.z b (o' + i) = some ⟨v, some (ej.b, i, real)⟩) → (∀ i, o' + n' ≤ i → β.z b i = none) → b ≠ B) :
    R K W0 N0 ⟨β.m, zAdd β.z B C lo (o + n) fun j => some (x.b, j - o, C.size), β.lo⟩ (σ.put t (some (.tail n esz T))) w ∧ β.le ⟨β.m, zAdd β.z B C lo (o + n) fun j => some (x.b, j - o, C.size), β.lo⟩ := by
  have hle : β.le ⟨β.m, zAdd β.z B C lo (o + n) fun j => some (x.b, j - o, C.size), β.lo⟩ := by
    refine ⟨fun _ _ h => h, fun b j c h => ?_, rfl, fun b j c h hb => ?_, fun b j v T' k r h hb => ?_⟩
    · dsimp only
      rw [zAdd_out]; · exact h
      rintro ⟨rfl, h1, _⟩
      rw [hbeh _ h1] at h; cases h
    · dsimp only at h
      rcases zAdd_inv h with ⟨rfl, _⟩ | ⟨_, h⟩
      · have := hR.zr.lo; omega
      · exact h
    · dsimp only at h
      rcases zAdd_inv h with ⟨_, _, _, _, h5⟩ | ⟨_, h⟩
      · cases h5; have := hR.zr.lo; have := htl.2; omega
      · exact h
  have old : ∀ {i e z}, β i = some e → (σ.put t (some (.tail n esz T))).get i = some z → (i = t ∧ e = x ∧ z = .tail n esz T) ∨ (i ≠ t ∧ σ.get i = some z) := by
    intro i e z hb hg
    rw [AS.get_put] at hg
    split at hg
    · rename_i hi; subst hi
      rw [hx] at hb; cases hb; cases hg
      exact .inl ⟨rfl, rfl, rfl⟩
    · rename_i hi; exact .inr ⟨hi, hg⟩
  refine ⟨hR.rez rfl hle (fun j z hz => ?_) ?_, hle⟩
  · rw [AS.get_put] at hz
    split at hz
    · rename_i hj; subst hj; cases hz
      exact .inr ⟨fun h => h, _, hy⟩
    · exact .inl hz
  exact
  { lo := hR.zr.lo
    zone := fun {b j c} hc => by
      dsimp only at hc
      rcases zAdd_inv hc with ⟨rfl, _, _, h4, _⟩ | ⟨_, h5⟩
      · exact ⟨C, T, fr, hC, h4⟩
      · exact hR.zr.zone h5
    own := fun {id e z} hb hg hz j => by
      rcases old hb hg with ⟨_, _, rfl⟩ | ⟨h1, h3⟩
      · cases hz
      · dsimp only
        rw [zAdd_out (by rintro ⟨h, _⟩; exact hnt _ _ _ hb h3 (by cases z <;> first | trivial | cases hz) h1 h)]
        exact hR.zr.own hb h3 hz j
    tl := fun {id e m es T'} hb hg => by
      rcases old hb hg with ⟨_, rfl, h3⟩ | ⟨h1, h3⟩
      · cases h3
        refine ⟨hn, he, htl, B, o, C, fr, hC, hN, hfr, fun i hi => ?_, fun j hj => ?_, fun b' j' v k real hc => ?_, fun id' e' z hb' hg' hz heq => ?_⟩
        · dsimp only
          by_cases h : o + i < lo
          · obtain ⟨v, hv⟩ := hold i h
            exact ⟨v, by rw [zAdd_out (by omega)]; exact hv⟩
          · have hi' : o + i < C.size := by omega
            exact ⟨C[o + i], by rw [zAdd_in (by omega) (by omega), Array.getElem?_eq_getElem hi', show o + i - o = i by omega]; rfl⟩
        · dsimp only
          rw [zAdd_out (by omega)]
          exact hbeh _ (by omega)
        · dsimp only at hc
          rcases zAdd_inv hc with ⟨rfl, h2, h3, _, h5⟩ | ⟨_, h5⟩
          · cases h5; exact ⟨by omega, fun _ => ⟨rfl, by omega⟩⟩
          · exact htg _ _ _ _ _ h5
        · rcases old hb' hg' with ⟨_, _, rfl⟩ | ⟨h2, h4⟩
          · exact hz
          · exact hnt _ _ _ hb' h4 hz h2 heq
      · refine (hR.zr.tl hb h3).other rfl (fun j k real h => ?_) (fun b o' h h' => hap _ _ _ _ _ h1 hb h3 b o' h h') (fun b _ _ => rfl) fun id' e' z hb' hg' hz => ?_
        · injection h with h; injection h with h _
          exact huni _ _ _ _ _ h1 hb h3 h.symm
        · rcases old hb' hg' with ⟨_, _, rfl⟩ | ⟨h2, h4⟩
          · exact hz.elim
          · exact ⟨_, _, _, .inl ⟨hb', h4, hz, rfl⟩⟩
    uni := fun {i j ei ej m es T' m' es' T''} hij hbi hbj hgi hgj heq => by
      rcases old hbi hgi with ⟨h1, rfl, _⟩ | ⟨h1, h3⟩
      · rcases old hbj hgj with ⟨h4, _, _⟩ | ⟨h4, h6⟩
        · exact hij (h1.trans h4.symm)
        · exact huni _ _ _ _ _ h4 hbj h6 heq.symm
      · rcases old hbj hgj with ⟨_, rfl, _⟩ | ⟨h4, h6⟩
        · exact huni _ _ _ _ _ h1 hbi h3 heq
        · exact hR.zr.uni hij hbi hbj h3 h6 heq
    tags := fun {b j v T' k real} hc => by
      have hc' := hc
      dsimp only at hc
      rcases zAdd_inv hc with ⟨h0, _, _, _, h5⟩ | ⟨_, h5⟩
      · cases h5
        refine ⟨hR.lt hx, ?_⟩
        rcases hT with hT | ⟨i, c, hT⟩
        · refine ⟨j, ⟨v, some (x.b, j - o, C.size)⟩, ?_⟩
          have e1 : x.b = b := hT.trans h0.symm
          rw [e1]; rw [e1] at hc'
          exact hc' 
        · exact ⟨i, c, hle.z _ _ _ hT⟩
      · obtain ⟨h6, i, c, h7⟩ := hR.zr.tags h5
        exact ⟨h6, i, c, hle.z _ _ _ h7⟩ }

/-- An exact row comes to rest. -/
theorem R.rest {β : Inj} {σ : AS} {w : World} (hR : R K W0 N0 β σ w) {r : Nat} {e : Ent} {cs : List Value} {lo : Lo} {pv : Option Nat} (hr : β r = some e) (hg : σ.get r = some (.cells cs true lo pv)) (hpv : pv = none) {C : Array Value} {ty : TypeId} {fr : Nat × Nat} (hC : w.heap[e.b]? = some (.cells C ty fr)) :
    R K W0 N0 ⟨β.m, zAdd β.z e.b C 0 C.size fun _ => none, β.lo⟩ (σ.put r none) w ∧ β.le ⟨β.m, zAdd β.z e.b C 0 C.size fun _ => none, β.lo⟩ := by
  have hfree := hR.zr.own hr hg rfl
  have hle : β.le ⟨β.m, zAdd β.z e.b C 0 C.size fun _ => none, β.lo⟩ := by
    refine ⟨fun _ _ h => h, fun b j c h => ?_, rfl, fun b j c h hb => ?_, fun b j v T' k r h hb => ?_⟩
    rotate_left
    rotate_left
    · dsimp only at h
      rcases zAdd_inv h with ⟨_, _, _, _, h5⟩ | ⟨_, h⟩
      · cases h5
      · exact h
    · dsimp only
      rw [zAdd_out]; · exact h
      rintro ⟨rfl, h1, _⟩
      rw [hfree] at h; cases h
    · dsimp only at h
      rcases zAdd_inv h with ⟨rfl, _⟩ | ⟨_, h⟩
      · have := hR.zr.lo
        obtain ⟨_, _, _, _, _, hrw, _⟩ := hR.cells hr hg
        have := (hrw rfl).1
        omega
      · exact h
  have old : ∀ {i z}, (σ.put r none).get i = some z → i ≠ r ∧ σ.get i = some z := by
    intro i z hg
    rw [AS.get_put] at hg
    split at hg
    · cases hg
    · rename_i hi; exact ⟨hi, hg⟩
  have apart : ∀ {i ei z}, i ≠ r → β i = some ei → σ.get i = some z → ei.b ≠ e.b := by
    intro i ei z hi hb hz heq
    have := hR.excl (Ne.symm hi) hr hb hg hz rfl heq.symm
    rw [show prevOf (.cells cs true lo pv) = pv from rfl, hpv] at this
    cases this
  refine ⟨hR.rez rfl hle (fun j z hz => .inl (old hz).2) ?_, hle⟩
  exact
  { lo := hR.zr.lo
    zone := fun {b j c} hc => by
      dsimp only at hc
      rcases zAdd_inv hc with ⟨rfl, _, _, h4, _⟩ | ⟨_, h5⟩
      · exact ⟨C, ty, fr, hC, h4⟩
      · exact hR.zr.zone h5
    own := fun {id e' z} hb hgz hz j => by
      obtain ⟨h1, h2⟩ := old hgz
      dsimp only
      rw [zAdd_out (by rintro ⟨h, _⟩; exact apart h1 hb h2 h)]
      exact hR.zr.own hb h2 hz j
    tl := fun {id e' m es T'} hb hgz => by
      obtain ⟨h1, h2⟩ := old hgz
      refine (hR.zr.tl hb h2).other rfl (fun j k real h => by cases h) (fun b o' h _ => ?_) (fun b _ _ => rfl) fun id' e' z hb' hg' hz => ⟨_, _, _, .inl ⟨hb', (old hg').2, hz, rfl⟩⟩
      rintro rfl
      obtain ⟨v, rl, hv⟩ := h 0 (hR.zr.tl hb h2).1
      rw [hfree] at hv; cases hv
    uni := fun hij hbi hbj hgi hgj => hR.zr.uni hij hbi hbj (old hgi).2 (old hgj).2
    tags := fun {b j v T' k real} hc => by
      dsimp only at hc
      rcases zAdd_inv hc with ⟨rfl, _, _, _, h5⟩ | ⟨_, h5⟩
      · cases h5
      · obtain ⟨h6, i, c, h7⟩ := hR.zr.tags h5
        exact ⟨h6, i, c, hle.z _ _ _ h7⟩ }

end Go.Va

/-
  OPERATIONS ON LISTS: what the model comes to.
-/
namespace Go.Va
open Go.RowKit
variable {P : Program} {K : FuncId → Code → Prop} {W0 : World} {N0 : Nat}

theorem sim2_val {β : Inj} {x : Option Value} {s' : Sem Value} (h : ∀ σ w v, R K W0 N0 β σ w → x = some v → ∃ v', s'.run P w = .ok v' w ∧ vRel β v v') : Sim2 P K W0 N0 β (fun σ => x.map fun v => (v, σ)) s' := by
  intro σ w v σ' hw hR hr hf
  cases hx : x with
  | none => rw [hx] at hr; cases hr
  | some u =>
    rw [hx] at hr
    cases hr
    obtain ⟨v', h1, h2⟩ := h σ w v hR hx
    exact ⟨v', w, β, h1, .refl _ _, hR, h2⟩

theorem natOf_rel {β : Inj} {i i' : Value} {j : Nat} (hi : vRel β i i') (h : natOf i = some j) : ∃ k m, i = .int k m ∧ i' = .int k m ∧ 0 ≤ m ∧ j = m.toNat := by
  unfold natOf at h
  split at h
  · rename_i k m
    cases hb : decide (0 ≤ m) with
    | false => rw [hb] at h; cases h
    | true =>
      rw [hb, cond_true] at h
      cases h
      cases hi
      exact ⟨k, m, rfl, rfl, of_decide_eq_true hb, rfl⟩
  · cases h

theorem addr_plus (b o n : Nat) : (⟨b, o, none⟩ : Addr).add n = ⟨b, o + n, none⟩ := by
  unfold Addr.add
  split
  · rename_i h; subst h; rfl
  · rfl

theorem run_ret {α : Type} (a : α) (w : World) : (pure a : Sem α).run P w = .ok a w := rfl

theorem sim2_idxL {β : Inj} {xt : TypeId} {x x' i i' : Value} {c : List Value} {n e g : Nat} (hx : vRel β x x') (hi : vRel β i i') (hl : asL x = some (c, n, e, g)) : Sim2 P K W0 N0 β (fun σ => (idxL P xt c n e i).map fun v => (v, σ)) (Instr.indexAt xt x' i') := by
  refine sim2_val fun σ w v hR h => ?_
  obtain ⟨cs', b, o, c', hL⟩ := list_inv hx hl
  unfold idxL at h
  split at h
  · rename_i el j hu hj
    obtain ⟨k, m, rfl, rfl, h0, rfl⟩ := natOf_rel hi hj
    split at h
    · rename_i d hd
      cases hb : (Nat.blt m.toNat n && Nat.beq e d.size) with
      | false => rw [hb] at h; cases h
      | true =>
        rw [hb, cond_true] at h
        cases h
        simp only [Bool.and_eq_true] at hb
        have h1 : m.toNat < n := blt_iff.1 hb.1
        have h2 : e = d.size := Nat.eq_of_beq_eq_true hb.2
        refine ⟨.pointer (some ⟨b, o + m.toNat * e, none⟩), ?_, place_shut hL.at' hL.rel hL.one⟩
        rw [hL.eq]
        unfold Instr.indexAt
        rw [run_bind', show (asIntOf (.int k m)).run P w = .ok (k, m) w from rfl]
        simp only [run_bind', run_underlying' _ _ _ hu, run_ret]
        rw [if_pos ⟨h0, by omega⟩]
        simp only [run_bind', run_sizeOf' _ _ _ hd, run_ret, addr_plus, h2]
    · cases h
  · cases h

theorem sim2_idxP {β : Inj} {xt : TypeId} {x x' i i' : Value} {c : List Value} {q : Nat} (hx : vRel β x x') (hi : vRel β i i') (hl : asP x = some (c, q)) : Sim2 P K W0 N0 β (fun σ => (idxP P xt c q i).map fun v => (v, σ)) (Instr.indexAt xt x' i') := by
  refine sim2_val fun σ w v hR h => ?_
  obtain ⟨cs', b, o, rfl, hz, hr, h1⟩ := place_inv hx hl
  unfold idxP at h
  split at h
  · rename_i n el j hu hj
    obtain ⟨k, m, rfl, rfl, h0, rfl⟩ := natOf_rel hi hj
    split at h
    · rename_i d hd
      cases hb : Nat.blt m.toNat n with
      | false => rw [hb] at h; cases h
      | true =>
        rw [hb, cond_true] at h
        cases h
        have h2 : m.toNat < n := blt_iff.1 hb
        refine ⟨.pointer (some ⟨b, o + (q + m.toNat * d.size), none⟩), ?_, place_shut hz hr h1⟩
        unfold Instr.indexAt
        rw [run_bind', show (asIntOf (.int k m)).run P w = .ok (k, m) w from rfl]
        have hs : (Instr.sureAddr (.pointer (some ⟨b, o + q, none⟩))).run P w = .ok ⟨b, o + q, none⟩ w := rfl
        simp only [run_bind', run_underlying' _ _ _ hu, hs, run_ret]
        rw [if_pos ⟨h0, by omega⟩]
        simp only [run_bind', run_sizeOf' _ _ _ hd, run_ret, addr_plus, Nat.add_assoc]
    · cases h
  · cases h

theorem run_isAgg' (t : TypeId) (w : World) (d : TypeDesc) (h : P.underlying t = some d) : (isAgg t).run P w = .ok (aggT d) w := by
  rw [isAgg_eq, run_bind', run_underlying' t w d h]
  cases d <;> rfl

theorem lRel_drop_take {β : Inj} {c : List Value} {cs' : Array Value} (h : lRel β c cs'.toList) (k n : Nat) : lRel β ((c.drop k).take n) (cs'.extract k (k + n)).toList := by
  simp only [Array.toList_extract, List.extract]
  rw [show k + n - k = n by omega]
  exact (h.drop k).take n

theorem sim2_loadL {β : Inj} {ty : TypeId} {x x' : Value} {c : List Value} {q : Nat} (hx : vRel β x x') (hl : asP x = some (c, q)) : Sim2 P K W0 N0 β (fun σ => (loadL P ty c q).map fun v => (v, σ)) (Instr.loadAt ty x') := by
  refine sim2_val fun σ w v hR h => ?_
  obtain ⟨cs', b, o, rfl, hz, hr, h1⟩ := place_inv hx hl
  have hlen : c.length = cs'.size := by have := hr.length; simpa using this
  unfold loadL at h
  split at h
  case h_2 => cases h
  rename_i d i hu hi
  have hs : ∀ w, (Instr.sureAddr (.pointer (some ⟨b, o + q, none⟩))).run P w = .ok ⟨b, o + q, none⟩ w := fun _ => rfl
  unfold Instr.loadAt
  rw [run_bind', hs]
  dsimp only
  unfold loadVar
  rw [run_bind', run_isAgg' _ _ _ hu]
  dsimp only
  cases ha : aggT d with
  | true =>
    rw [ha, cond_true] at h
    cases hb : Nat.ble (q + i.size) c.length with
    | false => rw [hb] at h; cases h
    | true =>
      rw [hb, cond_true] at h
      cases h
      have hle : q + i.size ≤ c.length := Nat.ble_eq ▸ hb
      have hrun := run_loadZ (P := P) hR hz (k := q) i.size 0 #[] (by omega)
      simp only [Nat.add_zero, Array.empty_append] at hrun
      refine ⟨.agg (cs'.extract q (q + i.size)), ?_, ?_⟩
      · simp only [if_true, run_bind', run_sizeOf' _ _ _ hi]
        unfold loadCells
        rw [hrun]; rfl
      · have := arrRel_iff.2 (lRel_drop_take (c := c) hr q i.size)
        have h2 : arrRel β ⟨(c.drop q).take i.size⟩ (cs'.extract q (q + i.size)) := arrRel_iff.2 (lRel_drop_take hr q i.size)
        exact .agg h2.1 h2.2
  | false =>
    rw [ha, cond_false] at h
    obtain ⟨v', h3, h4⟩ := hr.getElem? q h
    rw [Array.getElem?_toList] at h3
    obtain ⟨hlt, rfl⟩ := Array.getElem?_eq_some_iff.1 h3
    refine ⟨_, ?_, h4⟩
    have := hz.cell hR q hlt
    show (Sem.load .plain ⟨b, o + q, none⟩ Sem.pure).run P w = _
    simp only [Sem.run, this]

theorem sim2_fieldL {β : Inj} {s : TypeId} {f : Nat} {x x' : Value} {c : List Value} {q : Nat} (hx : vRel β x x') (hl : asP x = some (c, q)) : Sim2 P K W0 N0 β (fun σ => (fieldL P s c q f).map fun v => (v, σ)) (Instr.fieldAt s x' f) := by
  refine sim2_val fun σ w v hR h => ?_
  obtain ⟨cs', b, o, rfl, hz, hr, h1⟩ := place_inv hx hl
  unfold fieldL at h
  split at h
  case h_2 => cases h
  rename_i fields hu
  split at h
  case h_2 => cases h
  rename_i fd hf
  split at h
  case h_2 => cases h
  rename_i i hi
  cases hb : Nat.beq i.size 0 with
  | true => rw [hb] at h; cases h
  | false =>
    rw [hb, cond_false] at h
    cases h
    have h0 : i.size ≠ 0 := by intro e; rw [e] at hb; simp at hb
    refine ⟨.pointer (some ⟨b, o + (q + fd.offset), none⟩), ?_, place_shut hz hr h1⟩
    unfold Instr.fieldAt
    have hs : ∀ w, (Instr.sureAddr (.pointer (some ⟨b, o + q, none⟩))).run P w = .ok ⟨b, o + q, none⟩ w := fun _ => rfl
    rw [run_bind', run_underlying' _ _ _ hu]
    dsimp only
    rw [hf]
    dsimp only
    rw [run_bind', hs]
    dsimp only
    unfold fieldPlace
    simp only [run_bind', run_sizeOf' _ _ _ hi, if_neg h0, run_ret, addr_plus, Nat.add_assoc]

theorem ZAt.sub {β : Inj} {b o : Nat} {cs' : Array Value} (h : ZAt β b o cs') (k n : Nat) : ZAt β b (o + k) (cs'.extract k (k + n)) := by
  intro i hi
  simp only [Array.size_extract] at hi
  obtain ⟨tg, h1⟩ := h (k + i) (by omega)
  exact ⟨tg, by rw [Nat.add_assoc, h1]; simp⟩

/-- A part of a list. -/
theorem Lst.cut {β : Inj} {c : List Value} {n e g : Nat} {x' : Value} {cs' : Array Value} {b o c' : Nat} (h : Lst β c n e g x' cs' b o c') {l k m g' : Nat} (hl : l + k ≤ n) (hk : k ≤ m) (hg : g' = 0 ∨ g' = 1 ∧ m = k) (hm : (if m = 0 then some (⟨b, o, none⟩ : Addr) else some (⟨b, o + l * e, none⟩ : Addr)) = some ⟨b, o + l * e, none⟩ ∨ k = 0) :
    ∀ a', (a' = (⟨b, o + l * e, none⟩ : Addr) ∨ k = 0 ∧ a' = ⟨b, o, none⟩) → vRel β (L ((c.drop (l * e)).take (k * e)) k e g') (.slice (some a') k m) := by
  intro a' ha'
  have hlen := h.len
  have hle : (l + k) * e ≤ n * e := Nat.mul_le_mul_right _ hl
  rw [Nat.add_mul] at hle
  have h1 : ((c.drop (l * e)).take (k * e)).length = k * e := by simp; omega
  have hr := lRel_drop_take h.rel (l * e) (k * e)
  have ho := h.one.cut (l * e) (k * e)
  have hgr : ∀ b o, gRel β b o ((c.drop (l * e)).take (k * e)).length e k m g' := by
    intro b o
    rcases hg with rfl | ⟨rfl, h⟩
    · trivial
    · exact h
  rcases ha' with rfl | ⟨rfl, rfl⟩
  · exact Lst.shut ⟨rfl, h1, h.at'.sub _ _, hr, ho, hk, hgr _ _⟩
  · rw [Nat.zero_mul] at h1 hr
    have : (c.drop (l * e)).take (0 * e) = [] := by simp
    rw [this]
    refine Lst.shut (cs' := #[]) ⟨rfl, by simp, fun i hi => by simp at hi, trivial, Cells.nil, hk, ?_⟩
    rcases hg with rfl | ⟨rfl, h⟩
    · trivial
    · exact h

theorem sim2_cutL {β : Inj} {t : TypeId} {x x' : Value} {lo lo' hi hi' mx mx' : Option Value} {c : List Value} {n e g : Nat} (hx : vRel β x x') (h1 : ovRel β lo lo') (h2 : ovRel β hi hi') (h3 : ovRel β mx mx') (hl : asL x = some (c, n, e, g)) :
    Sim2 P K W0 N0 β (fun σ => (cutL P t c n e g lo hi mx).map fun v => (v, σ)) (Instr.sliceAt t x' lo' hi' mx') := by
  refine sim2_val fun σ w v hR h => ?_
  obtain ⟨cs', b, o, c', hL⟩ := list_inv hx hl
  unfold cutL at h
  split at h
  case h_2 => cases h
  rename_i el hu
  split at h
  case h_2 => cases h
  rename_i i l hh hi0 e1 e2
  cases hb : (Nat.ble l hh && Nat.ble hh n && Nat.beq e i.size) with
  | false => rw [hb] at h; cases h
  | true =>
    rw [hb, cond_true] at h
    simp only [Bool.and_eq_true] at hb
    have b1 : l ≤ hh := Nat.ble_eq ▸ hb.1.1
    have b2 : hh ≤ n := Nat.ble_eq ▸ hb.1.2
    have b3 : e = i.size := Nat.eq_of_beq_eq_true hb.2
    subst b3
    have hcap := hL.cap
    have done : ∀ (m' : Nat) (g' : Nat) (u : Value), asN mx' c' = some m' → hh ≤ m' → m' ≤ c' → (mx'.isSome = true → hi'.isSome = true) → (g' = 0 ∨ g' = 1 ∧ m' - l = hh - l) → u = L ((c.drop (l * i.size)).take ((hh - l) * i.size)) (hh - l) i.size g' →
        ∃ v', (Instr.sliceAt t x' lo' hi' mx').run P w = .ok v' w ∧ vRel β u v' := by
      intro m' g' u q1 q2 q3 q4 q5 q6
      have hrun := run_slice_slice (P := P) hu hi0 (base := some ⟨b, o, none⟩) w (run_sliceBounds (P := P) (len := n) (cap := c') true w (asN_rel h1 e1) (asN_rel h2 e2) q1 b1 q2 q3 q4)
      rw [hL.eq]
      refine ⟨_, hrun, ?_⟩
      rw [q6]
      have key := hL.cut (l := l) (k := hh - l) (m := m' - l) (g' := g') (by omega) (by omega) q5 (by
        by_cases h0 : m' - l = 0
        · right; omega
        · left; rw [if_neg h0])
      split
      · rename_i hml
        exact key _ (.inr ⟨by omega, rfl⟩)
      · exact key _ (.inl (addr_plus _ _ _))
    cases mx with
    | none =>
      have hm0 : asN mx' c' = some c' := by rw [(ovRel_int h3).1 rfl]; rfl
      have hm1 : mx'.isSome = true → hi'.isSome = true := by rw [(ovRel_int h3).1 rfl]; intro h; cases h
      dsimp only at h
      split at h
      · cases h
        have el' := (ovRel_int h1).1 rfl
        have eh' := (ovRel_int h2).1 rfl
        simp only [asN, Option.some.injEq] at e1 e2
        subst e1 e2
        have hrun := run_slice_slice (P := P) hu hi0 (base := some ⟨b, o, none⟩) w (run_sliceBounds (P := P) (len := n) (cap := c') true w (asN_rel h1 rfl) (asN_rel h2 rfl) hm0 b1 (by omega) (Nat.le_refl _) hm1)
        refine ⟨_, by rw [hL.eq]; exact hrun, ?_⟩
        have hx2 : vRel β (L c n i.size g) x' := hL.shut
        rw [hL.eq] at hx2
        have : (if c' = 0 then some (⟨b, o, none⟩ : Addr) else (some (⟨b, o, none⟩ : Addr)).map (·.add (0 * i.size))) = some ⟨b, o, none⟩ := by
          split
          · rfl
          · simp [Addr.add]
        rw [this]
        exact hx2
      · cases h
        have eh' := (ovRel_int h2).1 rfl
        simp only [asN, Option.some.injEq] at e2
        subst e2
        have hdrop : (c.drop (l * i.size)).take ((n - l) * i.size) = c.drop (l * i.size) := by
          rw [List.take_of_length_le]
          have := hL.len
          simp only [List.length_drop, Nat.sub_mul]; omega
        cases hg : Nat.beq g 1 with
        | false => exact done c' 0 _ hm0 (by omega) (Nat.le_refl _) hm1 (.inl rfl) (by rw [hdrop]; rfl)
        | true =>
          have hg1 : g = 1 := Nat.eq_of_beq_eq_true hg
          have hcn : c' = n := by have := hL.grow; rw [hg1] at this; exact this
          exact done c' 1 _ hm0 (by omega) (Nat.le_refl _) hm1 (.inr ⟨rfl, by omega⟩) (by rw [hdrop]; rfl)
      · cases h
        exact done c' 0 _ hm0 (by omega) (Nat.le_refl _) hm1 (.inl rfl) rfl
    | some v0 =>
      dsimp only at h
      split at h
      case h_2 => cases h
      rename_i m hm
      cases mx' with
      | none => exact h3.elim
      | some v0' =>
      obtain ⟨k, q, rfl, rfl, hq, rfl⟩ := natOf_rel h3 hm
      cases hbb : (Nat.beq hh q.toNat && hi.isSome) with
      | false => rw [hbb] at h; cases h
      | true =>
        rw [hbb, cond_true] at h
        cases h
        simp only [Bool.and_eq_true] at hbb
        have hhq : hh = q.toNat := Nat.eq_of_beq_eq_true hbb.1
        refine done q.toNat 1 _ ?_ (by omega) (by omega) (fun _ => by rw [← ovRel_isSome h2]; exact hbb.2) (.inr ⟨rfl, by omega⟩) rfl
        simp only [asN, decide_eq_true hq, cond_true]

theorem sim2_cutP {β : Inj} {t : TypeId} {x x' : Value} {lo lo' hi hi' mx mx' : Option Value} {c : List Value} {q : Nat} (hx : vRel β x x') (h1 : ovRel β lo lo') (h2 : ovRel β hi hi') (h3 : ovRel β mx mx') (hl : asP x = some (c, q)) :
    Sim2 P K W0 N0 β (fun σ => (cutP P t c q lo hi mx).map fun v => (v, σ)) (Instr.sliceAt t x' lo' hi' mx') := by
  refine sim2_val fun σ w v hR h => ?_
  obtain ⟨cs', b, o, rfl, hz, hr, hone⟩ := place_inv hx hl
  have hlen : c.length = cs'.size := by have := hr.length; simpa using this
  unfold cutP at h
  split at h
  case h_2 => cases h
  rename_i n el hu
  split at h
  case h_2 => cases h
  rename_i i l hh hi0 e1 e2
  cases hb : (Nat.ble l hh && Nat.ble hh n && Nat.ble (q + n * i.size) c.length) with
  | false => rw [hb] at h; cases h
  | true =>
    rw [hb, cond_true] at h
    cases h
    simp only [Bool.and_eq_true] at hb
    have b1 : l ≤ hh := Nat.ble_eq ▸ hb.1.1
    have b2 : hh ≤ n := Nat.ble_eq ▸ hb.1.2
    have b3 : q + n * i.size ≤ c.length := Nat.ble_eq ▸ hb.2
    have hm0 : asN mx' n = some n := by rw [(ovRel_int h3).1 rfl]; rfl
    have hm1 : mx'.isSome = true → hi'.isSome = true := by rw [(ovRel_int h3).1 rfl]; intro h; cases h
    have hrun := run_sliceBounds (P := P) (len := n) (cap := n) false w (asN_rel h1 e1) (asN_rel h2 e2) hm0 b1 (by omega) (Nat.le_refl _) hm1
    have hs : ∀ w, (Instr.sureAddr (.pointer (some ⟨b, o + q, none⟩))).run P w = .ok ⟨b, o + q, none⟩ w := fun _ => rfl
    refine ⟨.slice (some (if n = l then ⟨b, o + q, none⟩ else ⟨b, o + q + l * i.size, none⟩)) (hh - l) (n - l), ?_, ?_⟩
    · unfold Instr.sliceAt
      rw [run_bind', run_underlying' _ _ _ hu]
      dsimp only
      rw [run_bind', hs]
      dsimp only
      rw [run_bind', hrun]
      dsimp only
      simp only [run_bind', run_sizeOf' _ _ _ hi0, addr_plus, run_ret]
    · have hle : hh * i.size ≤ n * i.size := Nat.mul_le_mul_right _ b2
      have hll : (hh - l) * i.size = hh * i.size - l * i.size := Nat.sub_mul ..
      have hlh : l * i.size ≤ hh * i.size := Nat.mul_le_mul_right _ b1
      have h1' : ((c.drop (q + l * i.size)).take ((hh - l) * i.size)).length = (hh - l) * i.size := by simp; omega
      have hr' := lRel_drop_take hr (q + l * i.size) ((hh - l) * i.size)
      have ho := hone.cut (q + l * i.size) ((hh - l) * i.size)
      have hgr : ∀ b o, gRel β b o ((c.drop (q + l * i.size)).take ((hh - l) * i.size)).length i.size (hh - l) (n - l) (bif Nat.beq hh n then 1 else 0) := by
        intro b o
        cases hbb : Nat.beq hh n with
        | true => have := Nat.eq_of_beq_eq_true hbb; subst this; rfl
        | false => trivial
      by_cases hnl : n = l
      · rw [if_pos hnl]
        have : hh - l = 0 := by omega
        rw [this, Nat.zero_mul] at h1' hr' ho hgr
        have e0 : (c.drop (q + l * i.size)).take 0 = [] := by simp
        rw [this, Nat.zero_mul, e0]
        rw [e0] at hgr
        exact Lst.shut (cs' := #[]) ⟨rfl, by simp, fun i hi => by simp at hi, trivial, Cells.nil, by omega, hgr _ _⟩
      · rw [if_neg hnl]
        refine Lst.shut ⟨rfl, h1', ?_, hr', ho, by omega, hgr _ _⟩
        have := hz.sub (q + l * i.size) ((hh - l) * i.size)
        rw [← Nat.add_assoc] at this
        exact this

theorem sim2_arrL {β : Inj} {d : TypeId} {x x' : Value} {c : List Value} {n e g : Nat} (hx : vRel β x x') (hl : asL x = some (c, n, e, g)) : Sim2 P K W0 N0 β (fun σ => (arrL P d c n).map fun v => (v, σ)) (Instr.arrayAt d x') := by
  refine sim2_val fun σ w v hR h => ?_
  obtain ⟨cs', b, o, c', hL⟩ := list_inv hx hl
  unfold arrL at h
  split at h
  case h_2 => cases h
  rename_i m el hu
  cases hb : Nat.ble m n with
  | false => rw [hb] at h; cases h
  | true =>
    rw [hb, cond_true] at h
    cases h
    have hle : m ≤ n := Nat.ble_eq ▸ hb
    refine ⟨.pointer (some ⟨b, o + 0, none⟩), ?_, place_shut hL.at' hL.rel hL.one⟩
    rw [hL.eq]
    unfold Instr.arrayAt
    rw [run_bind', run_underlying' _ _ _ hu]
    dsimp only
    rw [if_neg (by omega)]
    rfl

theorem run_bytes {f : Value → ByteArray → Sem (ForInStep ByteArray)} (hf : ∀ x s, f (.int .u8 x) s = pure (ForInStep.yield (s.push (UInt8.ofNat x.toNat)))) : ∀ (vs : List Value) (l : List UInt8) (s : ByteArray) (w : World), bytesOf vs = some l →
    (forIn (m := Sem) vs s f).run P w = .ok ⟨s.data ++ l.toArray⟩ w
  | [], l, s, w, h => by
    simp only [bytesOf, Option.some.injEq] at h
    subst h
    simp only [List.forIn_nil]
    show Result.ok s w = _
    simp
  | v :: vs, l, s, w, h => by
    unfold bytesOf at h
    split at h
    · cases ‹v :: vs = []›
    · rename_i x l' heq
      cases heq
      split at h
      · rename_i r hr
        cases h
        simp only [List.forIn_cons]
        rw [run_bind', hf, show (pure (ForInStep.yield (s.push (UInt8.ofNat x.toNat))) : Sem (ForInStep ByteArray)).run P w = .ok (ForInStep.yield (s.push (UInt8.ofNat x.toNat))) w from rfl]
        dsimp only
        rw [run_bytes hf vs r _ w hr]
        congr 1
        apply ByteArray.ext
        simp [ByteArray.push]
      · cases h
    · cases h

theorem bytesOf_plain {β : Inj} : ∀ {vs : List Value} {l : List UInt8} {ws : List Value}, bytesOf vs = some l → lRel β vs ws → ws = vs
  | [], l, [], _, _ => rfl
  | [], _, _ :: _, _, h => h.elim
  | _ :: _, _, [], _, h => h.elim
  | v :: vs, l, u :: us, h, hr => by
    unfold bytesOf at h
    split at h
    · cases ‹v :: vs = []›
    · rename_i x l' heq
      cases heq
      split at h
      · rename_i r hrr
        obtain ⟨h1, h2⟩ := hr
        cases h1
        rw [bytesOf_plain hrr h2]
      · cases h
    · cases h

theorem sim2_strL {β : Inj} {src dst : TypeId} {x x' : Value} {c : List Value} {n e g : Nat} (hx : vRel β x x') (hl : asL x = some (c, n, e, g)) : Sim2 P K W0 N0 β (fun σ => (strL P src dst c e).map fun v => (v, σ)) (convert src dst x') := by
  refine sim2_val fun σ w v hR h => ?_
  obtain ⟨cs', b, o, c', hL⟩ := list_inv hx hl
  unfold strL at h
  split at h
  case h_2 => cases h
  rename_i el hu1 hu2
  split at h
  case h_2 => cases h
  rename_i s hu3 hs
  cases hb : Nat.beq e 1 with
  | false => rw [hb] at h; cases h
  | true =>
    rw [hb, cond_true] at h
    cases h
    have he : e = 1 := Nat.eq_of_beq_eq_true hb
    have hlen := hL.len
    rw [he, Nat.mul_one] at hlen
    have hsz : cs'.size = n := by have := hL.rel.length; simp only [Array.length_toList] at this; omega
    have hcs : cs'.toList = c := bytesOf_plain hs hL.rel
    refine ⟨.string ⟨s.toArray⟩, ?_, .string _⟩
    have hload := run_loadZ (P := P) hR hL.at' (k := 0) n 0 #[] (by omega)
    simp only [Nat.add_zero, Nat.zero_add, Array.empty_append] at hload
    rw [show cs'.extract 0 n = cs' by rw [← hsz]; simp] at hload
    rw [hL.eq]
    unfold convert
    rw [run_bind', run_underlying' _ _ _ hu1]
    dsimp only
    rw [run_bind', run_underlying' _ _ _ hu2]
    dsimp only
    rw [run_bind', run_underlying' _ _ _ hu3]
    dsimp only
    unfold Conv.bytesToString
    dsimp only
    rw [run_bind']
    unfold loadCells
    rw [hload]
    dsimp only
    rw [← Array.forIn_toList, hcs, run_bind', run_bytes (fun _ _ => rfl) c s .empty w hs]
    dsimp only
    rw [run_ret]
    congr 2
    apply ByteArray.ext
    simp

/-- The end of a growing list's block is marked once more. -/
theorem R.freezeZ {β : Inj} {σ : AS} {w : World} (hR : R K W0 N0 β σ w) {b : Nat} {C : Array Value} {T : TypeId} {fr : Nat × Nat} (hC : w.heap[b]? = some (.cells C T fr)) (hN : N0 ≤ b)
    (hnt : ∀ id' e' x, β id' = some e' → σ.get id' = some x → NT x → e'.b ≠ b) : R K W0 N0 β σ (w.freeze ⟨b, C.size, none⟩ 1) := by
  have heap : ∀ r, (w.freeze ⟨b, C.size, none⟩ 1).heap[r]? = if b = r then some (.cells C T (if fr.1 == fr.2 then (C.size, C.size + 1) else (min fr.1 C.size, max fr.2 (C.size + 1)))) else w.heap[r]? := by
    intro r
    unfold World.freeze
    rw [if_neg (by omega)]
    simp only [Array.getElem?_modify]
    by_cases hr : b = r
    · subst hr
      rw [if_pos rfl, if_pos rfl, hC]; rfl
    · rw [if_neg hr, if_neg hr]
  have size : (w.freeze ⟨b, C.size, none⟩ 1).heap.size = w.heap.size := by
    unfold World.freeze; rw [if_neg (by omega)]; simp
  constructor
  · intro id e' c rw' lo pv hb hg
    obtain ⟨C', ty, fr', k1, k2⟩ := hR.cells hb hg
    exact ⟨C', ty, fr', by rw [heap, if_neg (Ne.symm (hnt _ _ _ hb hg trivial))]; exact k1, k2⟩
  · intro id e' x hb hg
    obtain ⟨k1, k2, o', k3, k4⟩ := hR.obj hb hg
    exact ⟨k1, k2, o', by rw [heap, if_neg (Ne.symm (hnt _ _ _ hb hg trivial))]; exact k3, k4⟩
  · exact hR.excl
  · intro id e' hb; rw [size]; exact hR.lt hb
  · exact Lib.below_freeze hR.base (p := ⟨b, C.size, none⟩) hN 1
  · rw [size]; exact hR.top
  · exact hR.code
  · exact
    { lo := hR.zr.lo
      zone := fun {b' j c} hc => by
        obtain ⟨C', ty, fr', h1, h2⟩ := hR.zr.zone hc
        by_cases h : b = b'
        · subst h
          rw [hC] at h1; cases h1
          exact ⟨C, T, _, by rw [heap, if_pos rfl], h2⟩
        · exact ⟨C', ty, fr', by rw [heap, if_neg h]; exact h1, h2⟩
      own := hR.zr.own
      tl := fun {id e n esz T'} hb hg => by
        obtain ⟨k0, k1, k2, b2, o2, C2, fr2, k3, k4, k5, k6⟩ := hR.zr.tl hb hg
        by_cases h : b = b2
        · subst h
          rw [hC] at k3; cases k3
          refine ⟨k0, k1, k2, b, o2, C, _, by rw [heap, if_pos rfl], k4, ?_, k6⟩
          by_cases hq : fr.1 = fr.2
          · rw [if_pos (by simpa using hq)]; exact .inr (Nat.le_refl _)
          · rw [if_neg (by simpa using hq)]
            rcases k5 with h | h
            · exact absurd h hq
            · refine .inr ?_
              show C.size ≤ min fr.1 C.size
              omega
        · exact ⟨k0, k1, k2, b2, o2, C2, fr2, by rw [heap, if_neg h]; exact k3, k4, k5, k6⟩
      uni := hR.zr.uni
      tags := fun {b' j v T' k real} hc => by rw [size]; exact hR.zr.tags hc }

theorem sim2_same {β : Inj} {src dst : TypeId} {x x' : Value} {c : List Value} {n e g : Nat} (hx : vRel β x x') (hl : asL x = some (c, n, e, g)) (ht : sameT P src dst = true) :
    Sim2 P K W0 N0 β (fun σ => bif wholeL c g σ then some (x, σ) else none) (convert src dst x') := by
  intro σ w v σ' hw hR hr hf
  dsimp only at hr
  cases hb : wholeL c g σ with
  | false => rw [hb] at hr; cases hr
  | true =>
  rw [hb, cond_true] at hr
  cases hr
  obtain ⟨cs', b, o, c', hL⟩ := list_inv hx hl
  unfold wholeL at hb
  split at hb
  case h_2 => cases hb
  rename_i _ t
  split at hb
  case h_2 => cases hb
  rename_i m esz T hg
  have hm := Nat.eq_of_beq_eq_true hb
  obtain ⟨xx, a, q, h1, h2, h3, h4⟩ := hL.grow
  obtain ⟨k0, k1, k2, B, O, C, fr, k3, k4, k5, k6, k7, k8, k9⟩ := hR.zr.tl h1 hg
  obtain ⟨v0, real, hv, _⟩ := h4 (c.length - 1) (by omega)
  have hbB : b = B := ((k8 _ _ _ _ _ hv).2 (by omega)).1
  subst hbB
  unfold sameT at ht
  rw [Bool.and_eq_true] at ht
  obtain ⟨ht1, ht2⟩ := ht
  have ht1 := Nat.eq_of_beq_eq_true ht1
  subst ht1
  split at ht2
  case h_2 => cases ht2
  rename_i el hu1
  split at ht2
  case h_2 => cases ht2
  rename_i hu2
  refine ⟨x', w.freeze ⟨b, C.size, none⟩ 1, β, ?_, .refl _ _, hR.freezeZ k3 k4 k9, hx⟩
  rw [hL.eq]
  unfold convert
  rw [run_bind', run_underlying' _ _ _ hu1]
  dsimp only
  rw [run_bind', run_underlying' _ _ _ hu1]
  dsimp only
  rw [run_bind', run_underlying' _ _ _ hu2]
  have hs : w.shape? b = some (T, C.size) := shape_of_heap k3
  simp only [beq_self_eq_true]
  rw [run_bind']
  have hm : (markStringish ⟨b, o, none⟩).run P w = .ok () (w.freeze ⟨b, C.size, none⟩ 1) := by
    unfold markStringish
    rw [run_bind']
    have r1 : (shape b).run P w = .ok (some (T, C.size)) w := by
      show (Sem.shape b .pure).run P _ = _
      simp only [Sem.run, hs]
    rw [r1]
    rfl
  rw [hm]
  rfl

end Go.Va

/-
  APPENDING TO LISTS; a row becomes a list; copies out of a list.
-/
namespace Go.Va
open Go.RowKit
variable {P : Program} {K : FuncId → Code → Prop} {W0 : World} {N0 : Nat}

/-- A block in which only lists lie is written where nothing is at rest. -/
theorem R.behind {β : Inj} {σ : AS} {w w' : World} (hR : R K W0 N0 β σ w) {B : Nat} (hent : ∀ id e x, β id = some e → σ.get id = some x → NT x → e.b ≠ B) {C C' : Array Value} {T : TypeId} {fr : Nat × Nat} (hC : w.heap[B]? = some (.cells C T fr))
    (hC' : w'.heap[B]? = some (.cells C' T fr)) (hs : C'.size = C.size) (hz : ∀ j c, β.z B j = some c → C'[j]? = C[j]?) (hoth : ∀ r, r ≠ B → w'.heap[r]? = w.heap[r]?) (hsz : w'.heap.size = w.heap.size) (hB : Below N0 W0 w') : R K W0 N0 β σ w' where
  cells := fun {id e c rw lo pv} hb hg => by
    obtain ⟨C1, ty, fr1, h1, h2⟩ := hR.cells hb hg
    exact ⟨C1, ty, fr1, by rw [hoth _ (hent _ _ _ hb hg trivial)]; exact h1, h2⟩
  obj := fun {id e o} hb hg => by
    obtain ⟨h1, h2, o', h3, h4⟩ := hR.obj hb hg
    exact ⟨h1, h2, o', by rw [hoth _ (hent _ _ _ hb hg trivial)]; exact h3, h4⟩
  excl := hR.excl
  lt := fun hb => by rw [hsz]; exact hR.lt hb
  base := hB
  top := by rw [hsz]; exact hR.top
  code := hR.code
  zr :=
  { lo := hR.zr.lo
    zone := fun {b j c} hc => by
      obtain ⟨C1, ty, fr1, h1, h2⟩ := hR.zr.zone hc
      by_cases hb : b = B
      · subst hb
        rw [hC] at h1; cases h1
        exact ⟨C', T, fr, hC', by rw [hz _ _ hc]; exact h2⟩
      · exact ⟨C1, ty, fr1, by rw [hoth _ hb]; exact h1, h2⟩
    own := hR.zr.own
    tl := fun {id e n esz T'} hb hg => by
      obtain ⟨k0, k1, k2, b, o, C1, fr1, k3, k4, k5, k6, k7, k8, k9⟩ := hR.zr.tl hb hg
      by_cases hbB : b = B
      · subst hbB
        rw [hC] at k3; cases k3
        exact ⟨k0, k1, k2, b, o, C', fr, hC', k4, by rw [hs]; exact k5, by rw [hs]; exact k6, k7, k8, k9⟩
      · exact ⟨k0, k1, k2, b, o, C1, fr1, by rw [hoth _ hbB]; exact k3, k4, k5, k6, k7, k8, k9⟩
    uni := hR.zr.uni
    tags := fun hc => by rw [hsz]; exact hR.zr.tags hc }

theorem strip_rel {β : Inj} {v v' : Value} (h : vRel β v v') : vRel β (strip v) v' := by
  unfold strip
  split
  · rename_i c n e g ha
    obtain ⟨cs', b, o, c', hL⟩ := list_inv h ha
    cases hg : Nat.ble g 1 with
    | true => exact h
    | false => exact Lst.shut ⟨hL.eq, hL.len, hL.at', hL.rel, hL.one, hL.cap, trivial⟩
  · exact h

theorem flat_PF {β : Inj} : ∀ (n : Nat) (v v' : Value), flatB n v = true → vRel β v v' → PF v := by
  intro n
  induction n with
  | zero => intro v v' h; simp [flatB] at h
  | succ n ih =>
    have arr : ∀ (xs ys : Array Value), xs.toList.all (flatB n) = true → xs.size = ys.size → (∀ i (h : i < xs.size) (h' : i < ys.size), vRel β xs[i] ys[i]) → ∀ i (h : i < xs.size), PF xs[i] := by
      intro xs ys h hs hr i hi
      exact ih _ _ (List.all_eq_true.1 h _ (by simp)) (hr i hi (by omega))
    intro v v' h hr
    cases hr with
    | bool b => exact .bool b
    | int k m => exact .int k m
    | float k m => exact .float k m
    | complex k m l => exact .complex k m l
    | string s => exact .string s
    | ptrNone => exact .ptrNone
    | ptr h1 => simp [flatB] at h
    | sliceNone l c => exact .sliceNone l c
    | slice l h1 hc => simp [flatB] at h
    | void a' c' h1 => simp [flatB] at h
    | mapNone => exact .mapNone
    | chanNone => simp [flatB] at h
    | map h1 h0 => simp [flatB] at h
    | func hfn h1 h2 h3 h4 =>
      rename_i fn fn' f f' c c'
      simp only [flatB, Bool.and_eq_true] at h
      refine .func (fun l hl => ?_) (fun t nm ht => ?_) (arr f f' h.1.2 h1 h2) (arr c c' h.2 h3 h4)
      · subst hl; simp at h
      · subst ht
        exact hfn.2
    | lst hs hne hz h1 hr hn hg =>
      refine .lst ?_ fun i hi => (h1 i hi).2
      simp only [flatB] at h
      rename_i cs cs' nm n' e g d b o c'
      have : asL (.tuple #[.func (.methodOf KL nm) cs #[.slice none n' g, .slice none e d]]) = some (cs.toList, n', e, g) := by
        obtain ⟨l⟩ := cs
        simp [asL]
      rw [this] at h
      exact Nat.ble_eq ▸ h
    | lpt hs hz h1 hr => exact .lpt fun i hi => (h1 i hi).2
    | nilFunc => exact .nilFunc
    | iface t h1 => exact .iface t (ih _ _ h h1)
    | nilIface => exact .nilIface
    | agg h1 h2 => exact .agg (arr _ _ h h1 h2)
    | tuple h1 h2 =>
      rename_i f f'
      simp only [flatB] at h
      cases ha : asL (.tuple f) with
      | some q =>
        obtain ⟨c, m, e, g⟩ := q
        obtain ⟨nm, d, he⟩ := asL_spec ha
        cases he
        exact absurd rfl (tuple_enc h1 h2).1
      | none =>
        rw [ha] at h
        cases hp : asP (.tuple f) with
        | some q =>
          obtain ⟨c, m⟩ := q
          obtain ⟨nm, d, he⟩ := asP_spec hp
          cases he
          exact absurd rfl (tuple_enc h1 h2).2
        | none =>
          rw [hp] at h
          exact .tuple (arr _ _ (by simpa using h) h1 h2)

theorem strip_cells {β : Inj} : ∀ {l m : List Value}, lRel β l m → (l.map strip).all cellOk = true → lRel β (l.map strip) m ∧ Cells (l.map strip)
  | [], [], _, _ => ⟨trivial, Cells.nil⟩
  | [], _ :: _, h, _ => h.elim
  | _ :: _, [], h, _ => h.elim
  | v :: l, u :: m, h, ha => by
    simp only [List.map_cons, List.all_cons, Bool.and_eq_true] at ha
    obtain ⟨h1, h2⟩ := strip_cells h.2 ha.2
    have hv := strip_rel h.1
    have hc := ha.1
    unfold cellOk at hc
    rw [Bool.and_eq_true] at hc
    refine ⟨⟨hv, h1⟩, fun x hx => ?_⟩
    simp only [List.map_cons, List.mem_cons] at hx
    rcases hx with rfl | hx
    · exact ⟨hc.1, flat_PF 100 _ _ hc.2 hv⟩
    · exact h2 x hx

theorem newOk_spec {β : Inj} {lim : Nat} {i : TypeInfo} {xt : Option TypeId} {x x' : Value} (hx : vRel β x x') {σ : AS} {new : List Value} {n : Nat} (h : newOk P lim i xt x σ = some (new, n)) :
    ∃ new0, newCells P lim i xt x σ = some (new0, n) ∧ (∀ ws, lRel β new0 ws → lRel β new ws ∧ Cells new) ∧ new.length = n * i.size := by
  unfold newOk at h
  cases hn : newCells P lim i xt x σ with
  | none => rw [hn] at h; cases h
  | some q =>
    obtain ⟨new1, n1⟩ := q
    rw [hn] at h
    dsimp only at h
    cases hla : asL x with
    | none =>
      rw [hla] at h
      simp only [Option.isSome_none, cond_false] at h
      cases hb : ((new1.map strip).all cellOk && Nat.beq new1.length (n1 * i.size)) with
      | false => rw [hb] at h; cases h
      | true =>
        rw [hb, cond_true] at h
        cases h
        simp only [Bool.and_eq_true] at hb
        exact ⟨new1, rfl, fun ws hw => strip_cells hw hb.1, by rw [List.length_map]; exact Nat.eq_of_beq_eq_true hb.2⟩
    | some q =>
      obtain ⟨c, m, e, g⟩ := q
      rw [hla] at h
      simp only [Option.isSome_some, cond_true] at h
      cases h
      obtain ⟨cs', b, o, c', hL⟩ := list_inv hx hla
      unfold newCells at hn
      rw [hla] at hn
      split at hn
      · rename_i e1 e2
        cases e2
        cases hb2 : Nat.beq e i.size with
        | false => rw [hb2] at hn; cases hn
        | true =>
          rw [hb2, cond_true] at hn
          cases hn
          have := Nat.eq_of_beq_eq_true hb2
          subst this
          exact ⟨_, rfl, fun ws hw => ⟨hw, hL.one⟩, hL.len⟩
      · obtain ⟨nm, d, rfl⟩ := asL_spec hla
        split at hn <;> first | (cases hn; done) | (simp at hn; done) | (simp [lenOfA] at hn; done)

theorem appBody_spec {lim : Nat} {argTypes : Array TypeId} {x : Value} {σ : AS} {k : TypeId → TypeInfo → List Value → Nat → Option (Value × AS)} {r : Value × AS} (h : appBody P lim argTypes x σ k = some r) :
    ∃ sType elem i new n, argTypes[0]? = some sType ∧ P.underlying sType = some (.slice elem) ∧ P.info? elem = some i ∧ newOk P lim i argTypes[1]? x σ = some (new, n) ∧ 0 < i.bytes ∧ i.zero.isSome = true ∧ 0 < i.size ∧ k elem i new n = some r := by
  unfold appBody at h
  cases h0 : argTypes[0]? with
  | none => rw [h0] at h; cases h
  | some sType =>
  rw [h0] at h
  dsimp only at h
  cases hd : P.underlying sType with
  | none => rw [hd] at h; cases h
  | some dd =>
  rw [hd] at h
  cases dd <;> first | cases h | skip
  rename_i elem
  dsimp only at h
  cases hi : P.info? elem with
  | none => rw [hi] at h; cases h
  | some i =>
  rw [hi] at h
  dsimp only at h
  cases hn : newOk P lim i argTypes[1]? x σ with
  | none => rw [hn] at h; cases h
  | some q =>
  obtain ⟨new, n⟩ := q
  rw [hn] at h
  dsimp only at h
  cases hb : (Nat.blt 0 i.bytes && i.zero.isSome && Nat.blt 0 i.size) with
  | false => rw [hb] at h; cases h
  | true =>
    rw [hb, cond_true] at h
    simp only [Bool.and_eq_true] at hb
    exact ⟨sType, elem, i, new, n, rfl, hd, hi, hn, blt_iff.1 hb.1.1, hb.1.2, blt_iff.1 hb.2, h⟩

theorem lRel_all {β : Inj} {c : List Value} {C : Array Value} (h : lRel β c C.toList) (i : Nat) (hi : i < c.length) : ∃ v', C[i]? = some v' ∧ vRel β c[i] v' := by
  obtain ⟨v', h1, h2⟩ := h.getElem? i (List.getElem?_eq_getElem hi)
  exact ⟨v', by rw [Array.getElem?_toList] at h1; exact h1, h2⟩

/-- Into a new block. -/
theorem grow_new {β : Inj} {σ : AS} {w : World} (hR : R K W0 N0 β σ w) (hf : β σ.next = none) {T : TypeId} {c : List Value} {A Z : Array Value} {n e cap : Nat} (hc : lRel β c A.toList) (h1 : Cells c) (hl : c.length = n * e) (hn : 0 < n) (he : 0 < e) (hcap : n ≤ cap)
    (hsz : (A ++ Z).size = cap * e) : ∃ β', Ext β β' σ (growNew c n e T σ).2 ∧ R K W0 N0 β' (growNew c n e T σ).2 { w with heap := w.heap.push (.cells (A ++ Z) T (0, 0)) } ∧
      vRel β' (growNew c n e T σ).1 (.slice (some ⟨w.heap.size, 0, none⟩) n cap) := by
  have hA : A.size = c.length := by have := hc.length; simpa using this.symm
  have hpos : 0 < c.length := by rw [hl]; exact Nat.mul_pos hn he
  have hle1 : n * e ≤ cap * e := Nat.mul_le_mul_right _ hcap
  obtain ⟨R1, hle⟩ := hR.growNew hf (C := A ++ Z) (T := T) (n := c.length) (esz := e) hpos he (by omega)
  refine ⟨_, ⟨hle, fun i x hx => ?_⟩, R1, ?_⟩
  · dsimp only [Inj.put] at hx
    split at hx
    · exact .inr ⟨by omega, by simp [growNew]; omega⟩
    · exact .inl hx
  · have hgetA : ∀ i (h : i < A.size), (A ++ Z)[i]? = some A[i] := fun i h => by rw [Array.getElem?_append_left h, Array.getElem?_eq_getElem h]
    refine Lst.shut (cs' := A) ⟨rfl, hl, fun i hi => ?_, hc.mono hle, h1, hcap, ?_⟩
    · refine ⟨some (w.heap.size, i, (A ++ Z).size), ?_⟩
      dsimp only
      rw [Nat.zero_add, zAdd_in (Nat.zero_le _) (by omega), hgetA i hi]; rfl
    · refine ⟨_, _, _, Inj.put_self .., rfl, hpos, fun i hi => ?_⟩
      refine ⟨A[i]'(by omega), (A ++ Z).size, ?_, by omega⟩
      dsimp only
      rw [Nat.zero_add, zAdd_in (Nat.zero_le _) (by omega), hgetA i (by omega)]; rfl

/-- A list that may grow moves into a new block. -/
theorem grow_move {β : Inj} {σ : AS} {w : World} (hR : R K W0 N0 β σ w) {t : Nat} {x : Ent} {T : TypeId} {k : Nat} {c : List Value} {A Z : Array Value} {n e cap a q : Nat} (hx : β t = some x) (hxt : x.tail = some (a, e, q)) (ht : σ.get t = some (.tail k e T)) (hk : k < c.length)
    (hc : lRel β c A.toList) (h1 : Cells c) (hl : c.length = n * e) (he : 0 < e) (hcap : n ≤ cap) (hsz : (A ++ Z).size = cap * e) :
    ∃ β', Ext β β' σ (σ.put t (some (.tail c.length e T))) ∧ R K W0 N0 β' (σ.put t (some (.tail c.length e T))) { w with heap := w.heap.push (.cells (A ++ Z) T (0, 0)) } ∧
      vRel β' (L c n e (t + 2)) (.slice (some ⟨w.heap.size, 0, none⟩) n cap) := by
  have hA : A.size = c.length := by have := hc.length; simpa using this.symm
  have hpos : 0 < c.length := by omega
  have hle1 : n * e ≤ cap * e := Nat.mul_le_mul_right _ hcap
  have R0 := hR.below ((Below.refl w.heap.size w).alloc (Nat.le_refl _) (.cells (A ++ Z) T (0, 0)))
  have zlt : ∀ {b j c}, β.z b j = some c → b < w.heap.size := fun h => hR.zlt h
  obtain ⟨k0, k1, k2, b0, o0, C0, fr0, k3, k4, k5, k6, k7, k8, k9⟩ := hR.zr.tl hx ht
  obtain ⟨v0, hv0⟩ := k6 0 k0
  obtain ⟨hTl, i0, c0, hT0⟩ := hR.zr.tags hv0
  have heap : (w.heap.push (Obj.cells (A ++ Z) T (0, 0)))[w.heap.size]? = some (.cells (A ++ Z) T (0, 0)) := by rw [Array.getElem?_push]; simp
  obtain ⟨R1, hle⟩ := R0.grown hx ht hpos he ⟨⟨_, _, hxt⟩, k2.2⟩ (B := w.heap.size) (o := 0) (lo := 0) (C := A ++ Z) (fr := (0, 0)) heap hR.top FrOk.zero (by omega) (Nat.le_refl _) (by omega)
    (fun i h => by omega) (fun j _ => by cases hz : β.z w.heap.size j with
      | none => rfl
      | some c => have := zlt hz; omega)
    (fun b' j' v i real hz => by
      have := k8 _ _ _ _ _ hz
      exact ⟨by omega, fun h => by omega⟩)
    (fun id' e' z hb hg hz _ => by have := hR.lt hb; omega) (.inr ⟨_, _, hT0⟩) (fun j ej n' es' T' hj hb hg => by
      intro h; exact hR.zr.uni hj hb hx hg ht h)
    (fun j ej n' es' T' hj hb hg b o' h _ => by
      obtain ⟨v, r, hv⟩ := h 0 (hR.zr.tl hb hg).1
      have := zlt hv; omega)
  refine ⟨_, ⟨hle, fun i x hx => .inl hx⟩, R1, ?_⟩
  have hgetA : ∀ i (h : i < A.size), (A ++ Z)[i]? = some A[i] := fun i h => by rw [Array.getElem?_append_left h, Array.getElem?_eq_getElem h]
  refine Lst.shut (cs' := A) ⟨rfl, hl, fun i hi => ?_, hc.mono hle, h1, hcap, ?_⟩
  · refine ⟨some (x.b, i, (A ++ Z).size), ?_⟩
    simp only [Nat.zero_add, Nat.sub_zero]
    rw [zAdd_in (Nat.zero_le _) (by omega), hgetA i hi]; rfl
  · refine ⟨_, _, _, hx, hxt, hpos, fun i hi => ?_⟩
    refine ⟨A[i]'(by omega), (A ++ Z).size, ?_, by omega⟩
    simp only [Nat.zero_add, Nat.sub_zero]
    rw [zAdd_in (Nat.zero_le _) (by omega), hgetA i (by omega)]; rfl

theorem sim2_appendL {β : Inj} (hZ : ZeroOk P) {rows : Bool} {lim : Nat} {argTypes : Array TypeId} {ty : TypeId} {args : List Value} {args' : Array Value} (ha : lRel β args args'.toList) {f : AS → Option (Value × AS)} (hf : ∀ σ, appendL P rows lim argTypes args σ = some (f σ)) :
    Sim2 P K W0 N0 β f (Builtin.append_ argTypes ty args') := by
  intro σ w v σ' hw hR hr hfr
  have hr : appendL P rows lim argTypes args σ = some (some (v, σ')) := by rw [hf, hr]
  unfold appendL at hr
  split at hr
  case h_2 => cases hr
  rename_i s x
  obtain ⟨s', x', rfl, hs, hx⟩ := two_args ha
  have hRd := hR.drawn (w.drawn + 1)
  -- nothing is appended
  have nothing : ∀ {sType elem i new n}, argTypes[0]? = some sType → P.underlying sType = some (.slice elem) → P.info? elem = some i → newOk P lim i argTypes[1]? x σ = some (new, n) → n = 0 → ∀ {base' : Option Addr} {l c' : Nat}, s' = .slice base' l c' → l ≤ c' → (base' = none ∨ ∃ a, base' = some a) →
      (Builtin.append_ argTypes ty #[s', x']).run P w = .ok s' w := by
    intro sType elem i new n h0 hd hi hn hn0 base' l c' hs' hlc _
    obtain ⟨new0, hnc, hst, hnl⟩ := newOk_spec hx hn
    obtain ⟨t, d, b, h1, hm, hbeh⟩ := behind_run (K := K) (W0 := W0) (N0 := N0) hZ hi hx hnc
    obtain ⟨new1, hb1, hl0⟩ := hbeh w hR hw
    obtain ⟨hl1, _⟩ := hst _ hl0
    subst hs' hn0
    rw [run_append_in h0 h1 hd hi hm (by omega) hb1]
    have : new1.toList = [] := by
      have := hl1.length
      rw [hnl] at this
      exact List.eq_nil_of_length_eq_zero (by omega)
    cases base' with
    | none => rfl
    | some a => dsimp only; rw [this]; rfl
  -- a new block
  have fresh1 : ∀ {sType elem i new n}, argTypes[0]? = some sType → P.underlying sType = some (.slice elem) → P.info? elem = some i → newOk P lim i argTypes[1]? x σ = some (new, n) → i.zero.isSome = true → 0 < i.bytes → 0 < i.size → n ≠ 0 →
      ∀ {base' : Option Addr} {m c' : Nat} {old : List Value} {old' : Array Value}, s' = .slice base' m c' → ¬ m + n ≤ c' → (m + n) * i.bytes ≤ 70368744177664 → (Builtin.firstCells i.size m s').run P (drawn1 w) = .ok old' (drawn1 w) → lRel β old old'.toList → Cells old → old.length = m * i.size →
      ∃ cap A Z, m + n ≤ cap ∧ (Builtin.append_ argTypes ty #[s', x']).run P w = .ok (.slice (some ⟨w.heap.size, 0, none⟩) (m + n) cap) { drawn1 w with heap := w.heap.push (.cells (A ++ Z) elem) } ∧ lRel β (old ++ new) A.toList ∧ Cells (old ++ new) ∧
        (old ++ new).length = (m + n) * i.size ∧ (A ++ Z).size = cap * i.size := by
    intro sType elem i new n h0 hd hi hn hz hby hsz hn0 base' m c' old old' hs' hlc hbytes hold hrel hone hlen
    obtain ⟨new0, hnc, hst, hnl⟩ := newOk_spec hx hn
    obtain ⟨t, d, b, h1, hm, hbeh⟩ := behind_run (K := K) (W0 := W0) (N0 := N0) hZ hi hx hnc
    obtain ⟨new2, hb2, hl0⟩ := hbeh (drawn1 w) hRd hw
    obtain ⟨hl2, hnone⟩ := hst _ hl0
    obtain ⟨z, hz⟩ := Option.isSome_iff_exists.1 hz
    have hzs := (hZ _ _ _ hi hz).1
    subst hs'
    obtain ⟨cap, c1, c2⟩ := run_append_grow (ty := ty) h0 h1 hd hi hz hm hlc hbytes hby hold hb2
    refine ⟨cap, old' ++ new2, Builtin.zeroCells z.cells (cap - (m + n)), c1, c2, by rw [Array.toList_append]; exact hrel.append hl2, hone.append hnone, by simp [hlen, hnl, Nat.add_mul], ?_⟩
    have e1 := hrel.length
    have e2 := hl2.length
    simp only [Array.length_toList] at e1 e2
    simp only [Array.size_append, size_zeroCells, hzs, ← e1, ← e2, hlen, hnl]
    rw [← Nat.add_mul, ← Nat.add_mul]
    congr 1; omega
  have fin : ∀ {elem : TypeId} {i : TypeInfo} {c : List Value} {m cap : Nat} {A Z : Array Value}, lRel β c A.toList → Cells c → c.length = m * i.size → 0 < m → 0 < i.size → m ≤ cap → (A ++ Z).size = cap * i.size → (v, σ') = growNew c m i.size elem σ →
      (Builtin.append_ argTypes ty #[s', x']).run P w = .ok (.slice (some ⟨w.heap.size, 0, none⟩) m cap) { drawn1 w with heap := w.heap.push (.cells (A ++ Z) elem) } →
      ∃ v' w' β', (Builtin.append_ argTypes ty #[s', x']).run P w = .ok v' w' ∧ Ext β β' σ σ' ∧ R K W0 N0 β' σ' w' ∧ vRel β' v v' := by
    intro elem i c m cap A Z q1 q2 q3 q4 q5 q6 q7 q8 q9
    have hfn : β σ.next = none := hfr _ (Nat.le_refl _) (by
      have : σ' = (growNew c m i.size elem σ).2 := congrArg Prod.snd q8
      rw [this]; simp [growNew])
    obtain ⟨β', x1, R1, hv⟩ := grow_new (T := elem) hRd hfn q1 q2 q3 q4 q5 q6 q7
    simp only [Prod.ext_iff] at q8
    obtain ⟨rfl, rfl⟩ := q8
    exact ⟨_, _, β', q9, x1, R1, hv⟩
  have loadOld : ∀ {c : List Value} {m e g : Nat} {cs' : Array Value} {b o c' : Nat}, Lst β c m e g s' cs' b o c' → (Builtin.firstCells e m s').run P (drawn1 w) = .ok cs' (drawn1 w) := by
    intro c m e g cs' b o c' hL
    have hsz : cs'.size = m * e := by have := hL.rel.length; simp only [Array.length_toList] at this; rw [← this, hL.len]
    rw [hL.eq]
    have := run_loadZ (P := P) hRd hL.at' (k := 0) (m * e) 0 #[] (by omega)
    simp only [Nat.add_zero, Nat.zero_add, Array.empty_append] at this
    rw [show cs'.extract 0 (m * e) = cs' by rw [← hsz]; simp] at this
    exact this
  split at hr
  · -- it may not grow
    rename_i c m e hl
    simp only [Option.some.injEq] at hr
    obtain ⟨sType, elem, i, new, n, h0, hd, hi, hn, hby, hz, hsz, hr⟩ := appBody_spec hr
    cases hb : Nat.beq n 0 with
    | false => rw [hb] at hr; cases hr
    | true =>
      rw [hb, cond_true] at hr
      cases hr
      obtain ⟨cs', b, o, c', hL⟩ := list_inv hs hl
      exact ⟨s', w, β, nothing h0 hd hi hn (Nat.eq_of_beq_eq_true hb) hL.eq hL.cap (.inr ⟨_, rfl⟩), .refl _ _, hR, hs⟩
  · -- its capacity ends with it
    rename_i c m e hl
    simp only [Option.some.injEq] at hr
    obtain ⟨sType, elem, i, new, n, h0, hd, hi, hn, hby, hz, hsz, hr⟩ := appBody_spec hr
    obtain ⟨cs', b, o, c', hL⟩ := list_inv hs hl
    cases hb : Nat.beq n 0 with
    | true =>
      rw [hb, cond_true] at hr
      cases hr
      exact ⟨s', w, β, nothing h0 hd hi hn (Nat.eq_of_beq_eq_true hb) hL.eq hL.cap (.inr ⟨_, rfl⟩), .refl _ _, hR, hs⟩
    | false =>
      rw [hb, cond_false] at hr
      have hn0 : n ≠ 0 := by intro h; rw [h] at hb; simp at hb
      cases hb2 : (Nat.ble ((m + n) * i.bytes) 70368744177664 && Nat.beq e i.size) with
      | false => rw [hb2] at hr; cases hr
      | true =>
        rw [hb2, cond_true] at hr
        simp only [Bool.and_eq_true] at hb2
        have he : e = i.size := Nat.eq_of_beq_eq_true hb2.2
        subst he
        have hcm : c' = m := hL.grow
        obtain ⟨cap, A, Z, q1, q2, q3, q4, q5, q6⟩ := fresh1 h0 hd hi hn hz hby hsz hn0 hL.eq (by omega) (Nat.ble_eq ▸ hb2.1) (loadOld hL) hL.rel hL.one hL.len
        exact fin q3 q4 q5 (by omega) hsz q1 q6 (Option.some.inj hr).symm q2
  · -- it may grow
    rename_i c m e t hl
    simp only [Option.some.injEq] at hr
    obtain ⟨sType, elem, i, new, n, h0, hd, hi, hn, hby, hz, hsz, hr⟩ := appBody_spec hr
    obtain ⟨cs', b, o, c', hL⟩ := list_inv hs hl
    split at hr
    case h_2 => cases hr
    rename_i k e' T ht
    cases hb2 : (Nat.ble ((m + n) * i.bytes) 70368744177664 && Nat.beq e i.size && Nat.beq k c.length && Nat.beq e' e && Nat.beq T elem && Nat.ble lim t) with
    | false => rw [hb2] at hr; cases hr
    | true =>
      rw [hb2, cond_true] at hr
      simp only [Bool.and_eq_true] at hb2
      obtain ⟨⟨⟨⟨⟨p1, p2⟩, p3⟩, p4⟩, p5⟩, p6⟩ := hb2
      have p2 := Nat.eq_of_beq_eq_true p2
      have p3 := Nat.eq_of_beq_eq_true p3
      have p4 := Nat.eq_of_beq_eq_true p4
      have p5 := Nat.eq_of_beq_eq_true p5
      subst p2 p3 p4 p5
      simp only [Option.some.injEq, Prod.mk.injEq] at hr
      obtain ⟨rfl, rfl⟩ := hr
      obtain ⟨xe, xa, xq, g1, g2, g3, g4⟩ := hL.grow
      obtain ⟨new0, hnc, hst, hnl⟩ := newOk_spec hx hn
      by_cases hroom : m + n ≤ c'
      · -- behind its end
        obtain ⟨t1, d, bb, h1, hm, hbeh⟩ := behind_run (K := K) (W0 := W0) (N0 := N0) hZ hi hx hnc
        obtain ⟨new1, hb1, hl0⟩ := hbeh w hR hw
        obtain ⟨hl1, hnone⟩ := hst _ hl0
        obtain ⟨k0, k1, k2, B, oB, C, fr, k3, k4, k5, k6, k7, k8, k9⟩ := hR.zr.tl g1 ht
        obtain ⟨vl, rl, hvl, hrl⟩ := g4 (c.length - 1) (by omega)
        obtain ⟨hBb, hoo⟩ := (k8 _ _ _ _ _ hvl).2 (by omega)
        have hoo : o = oB := by omega
        subst hBb hoo
        obtain ⟨vl2, hvl2⟩ := k6 (c.length - 1) (by omega)
        have hreal : o + c' * i.size ≤ C.size := by
          rw [hvl] at hvl2
          injection hvl2 with h; injection h with _ h; injection h with h; injection h with _ h; injection h with _ h
          omega
        have hmul : (m + n) * i.size ≤ c' * i.size := Nat.mul_le_mul_right _ hroom
        rw [Nat.add_mul] at hmul
        have hn1 : new1.toList.length = n * i.size := by rw [← hl1.length, hnl]
        have hclen := hL.len
        obtain ⟨w', C', e1, e2, e3, e4, e5, e6, e7, e8⟩ := run_storeCells (P := P) new1.toList 0 w b (o + m * i.size) C T fr k3 (by omega) k5.nf (lRel_oneCell hl1 hnone.all) k4 hR.base
        have R0 : R K W0 N0 β σ w' := hR.behind k9 k3 e2 e3 (fun j cc hz => by
          refine e4 j (.inl ?_)
          rcases Nat.lt_or_ge j (o + c.length) with h | h
          · omega
          · rw [k7 _ h] at hz; cases hz) e6 e7 e8
        have hnew0 : new.length = n * i.size := hnl
        obtain ⟨R1, hle⟩ := R0.grown g1 ht (n := (c ++ new).length) (by simp; omega) hsz ⟨⟨_, _, g2⟩, k2.2⟩ (B := b) (o := o) (lo := o + c.length) (C := C') (fr := fr) e2 k4 (by rw [e3]; exact k5) (by rw [e3]; simp; omega) (by omega) (by simp)
          (fun j hj => by obtain ⟨v, hv⟩ := k6 j (by omega); exact ⟨v, by rw [e3]; exact hv⟩) (fun j hj => k7 j hj)
          (fun b' j' v j real hz => by
            have h := k8 _ _ _ _ _ hz
            refine ⟨by simp; omega, fun hj => ?_⟩
            simp only [List.length_append] at hj
            exact h.2 (by omega))
          (fun id' ee z hb hg hz _ => k9 _ _ _ hb hg hz) (by
            obtain ⟨_, i0, c0, h⟩ := hR.zr.tags hvl
            exact .inr ⟨_, _, h⟩)
          (fun j ej n' es' T' hj hb hg => fun h => hR.zr.uni hj hb g1 hg ht h)
          (fun j ej n' es' T' hj hb hg b2 o2 h h' => by
            refine tails_apart (β := β) (T1 := ej.b) (T2 := xe.b) (fun h => hR.zr.uni hj hb g1 hg ht h) (hR.zr.tl hb hg).1 g3 h h' (fun i2 hi2 => ?_) k7
            obtain ⟨v, hv⟩ := k6 i2 hi2
            exact ⟨v, _, hv⟩)
        have hadd : (⟨b, o, none⟩ : Addr).add (m * i.size) = ⟨b, o + m * i.size, none⟩ := addr_plus _ _ _
        refine ⟨.slice (some ⟨b, o, none⟩) (m + n) c', w', _, ?_, ⟨hle, fun j xx hxx => .inl hxx⟩, R1, ?_⟩
        · rw [hL.eq, run_append_in h0 h1 hd hi hm hroom hb1]
          dsimp only
          rw [hadd, run_bind', e1]; rfl
        · have hrel2 : lRel β (c ++ new) (cs' ++ new1).toList := by rw [Array.toList_append]; exact hL.rel.append hl1
          have hcs : cs'.size = c.length := by have := hL.rel.length; simpa using this.symm
          refine Lst.shut (cs' := cs' ++ new1) ⟨rfl, by simp [hclen, hnl, Nat.add_mul], fun j hj => ?_, hrel2.mono hle, hL.one.append hnone, hroom, ?_⟩
          · by_cases hjc : j < cs'.size
            · obtain ⟨tg, htg⟩ := hL.at' j hjc
              refine ⟨tg, ?_⟩
              dsimp only
              rw [zAdd_out (by omega), htg, Array.getElem_append_left hjc]
            · refine ⟨some (xe.b, o + j - o, C'.size), ?_⟩
              simp only [Array.size_append] at hj
              dsimp only
              have h5 := e5 (j - cs'.size) (by simp; omega)
              rw [zAdd_in (by omega) (by simp only [List.length_append]; have := hl1.length; simp only [Array.length_toList] at this; omega)]
              rw [show o + j = o + m * i.size + 0 + (j - cs'.size) by omega, h5]
              simp only [Option.map_some]
              rw [Array.getElem_append_right (by omega)]
              simp
          · refine ⟨xe, xa, xq, g1, g2, by simp; omega, fun j hj => ?_⟩
            by_cases hjc : j < c.length
            · obtain ⟨v, real, hv, hv2⟩ := g4 j hjc
              exact ⟨v, real, hle.z _ _ _ hv, hv2⟩
            · have hj2 : j < c.length + new.length := by simpa using hj
              have h5 := e5 (j - c.length) (by rw [← hl1.length]; omega)
              refine ⟨new1.toList[j - c.length]'(by rw [← hl1.length]; omega), C'.size, ?_, by omega⟩
              dsimp only
              rw [zAdd_in (by omega) (by simp only [List.length_append]; omega)]
              rw [show o + j = o + m * i.size + 0 + (j - c.length) by omega, h5]
              simp only [Option.map_some]
              rw [show o + m * i.size + 0 + (j - c.length) - o = j by omega]
      · -- into a new block
        have hcap := hL.cap
        have hn0 : n ≠ 0 := by omega
        obtain ⟨cap, A, Z, q1, q2, q3, q4, q5, q6⟩ := fresh1 h0 hd hi hn hz hby hsz hn0 hL.eq hroom (Nat.ble_eq ▸ p1) (loadOld hL) hL.rel hL.one hL.len
        have hpos : 0 < n * i.size := Nat.mul_pos (by omega) hsz
        obtain ⟨β', x1, R1, hv⟩ := grow_move hRd g1 g2 ht (by simp only [List.length_append, hnl]; omega) q3 q4 q5 hsz q1 q6
        exact ⟨_, _, β', q2, x1, R1, hv⟩
  · -- nil
    cases rows with
    | true => cases hr
    | false =>
      simp only [cond_false] at hr
      split at hr
      case h_2 => cases hr
      simp only [Option.some.injEq] at hr
      obtain ⟨sType, elem, i, new, n, h0, hd, hi, hn, hby, hz, hsz, hr⟩ := appBody_spec hr
      have hs' : s' = .slice none 0 0 := by cases hs; rfl
      cases hb : Nat.beq n 0 with
      | true =>
        rw [hb, cond_true] at hr
        cases hr
        exact ⟨s', w, β, nothing h0 hd hi hn (Nat.eq_of_beq_eq_true hb) hs' (Nat.le_refl _) (.inl rfl), .refl _ _, hR, hs⟩
      | false =>
        rw [hb, cond_false] at hr
        have hn0 : n ≠ 0 := by intro h; rw [h] at hb; simp at hb
        cases hb2 : Nat.ble (n * i.bytes) 70368744177664 with
        | false => rw [hb2] at hr; cases hr
        | true =>
          rw [hb2, cond_true] at hr
          obtain ⟨cap, A, Z, q1, q2, q3, q4, q5, q6⟩ := fresh1 h0 hd hi hn hz hby hsz hn0 (m := 0) (old := []) (old' := #[]) hs' (by omega) (by rw [Nat.zero_add]; exact Nat.ble_eq ▸ hb2) (by rw [hs']; rfl) trivial Cells.nil (by simp)
          rw [Nat.zero_add] at q1 q2 q5
          rw [List.nil_append] at q3 q4 q5
          exact fin q3 q4 q5 (by omega) hsz q1 q6 (Option.some.inj hr).symm q2

end Go.Va

/-
  COPIES OUT OF A LIST, its length, nil; a row that was just made becomes a list.
-/
namespace Go.Va
open Go.RowKit
variable {P : Program} {K : FuncId → Code → Prop} {W0 : World} {N0 : Nat}

theorem sim2_copyL {β : Inj} {lim : Nat} {argTypes : Array TypeId} {ty : TypeId} {args : List Value} {args' : Array Value} (ha : lRel β args args'.toList) {f : AS → Option (Value × AS)} (hf : ∀ σ, copyL P lim argTypes args σ = some (f σ)) :
    Sim2 P K W0 N0 β f (Builtin.copy_ argTypes ty args') := by
  intro σ w v σ' hw hR hr hfr
  have hr : copyL P lim argTypes args σ = some (some (v, σ')) := by rw [hf, hr]
  unfold copyL at hr
  split at hr
  case h_2 => cases hr
  rename_i d x
  obtain ⟨d', x', rfl, hd, hx⟩ := two_args ha
  split at hr
  case h_2 => cases hr
  rename_i c n e g hl
  simp only [Option.some.injEq] at hr
  obtain ⟨cs', b, o, c', hL⟩ := list_inv hx hl
  split at hr
  case h_2 => cases hr
  rename_i el a dl dc hu
  cases h0 : argTypes[0]? with
  | none => rw [h0] at hu; cases hu
  | some dt =>
  rw [h0] at hu
  simp only [Option.bind_some] at hu
  split at hr
  case h_2 => cases hr
  rename_i i hi
  cases hb : Nat.beq e i.size with
  | false => rw [hb] at hr; cases hr
  | true =>
  rw [hb, cond_true] at hr
  have he := Nat.eq_of_beq_eq_true hb
  subst he
  split at hr
  case h_2 => cases hr
  rename_i σ1 hst
  cases hr
  have hsz : cs'.size = n * i.size := by have := hL.rel.length; simp only [Array.length_toList] at this; rw [← this, hL.len]
  have hmin : min n dl * i.size ≤ n * i.size := Nat.mul_le_mul_right _ (Nat.min_le_left ..)
  have hload := run_loadZ (P := P) hR hL.at' (k := 0) (min n dl * i.size) 0 #[] (by omega)
  simp only [Nat.add_zero, Nat.zero_add, Array.empty_append] at hload
  have hrel : lRel β (c.take (min n dl * i.size)) (cs'.extract 0 (min n dl * i.size)).toList := by
    have := lRel_drop_take hL.rel 0 (min n dl * i.size)
    simpa using this
  have main : ∀ a' dc', d' = .slice (some a') dl dc' → (∃ w' β', (storeCells a' (cs'.extract 0 (min n dl * i.size)).toList).run P w = .ok () w' ∧ Ext β β' σ σ' ∧ R K W0 N0 β' σ' w') →
      ∃ v' w' β', (Builtin.copy_ argTypes ty #[d', x']).run P w = .ok v' w' ∧ Ext β β' σ σ' ∧ R K W0 N0 β' σ' w' ∧ vRel β' (goInt ((min n dl : Nat) : Int)) v' := by
    rintro a' dc' rfl ⟨w', β', e1, x1, R1⟩
    refine ⟨goInt ((min n dl : Nat) : Int), w', β', ?_, x1, R1, .int _ _⟩
    rw [hL.eq]
    unfold Builtin.copy_
    have a0 : (#[Value.slice (some a') dl dc', .slice (some ⟨b, o, none⟩) n c'] : Array Value)[0]? = some (.slice (some a') dl dc') := rfl
    have a1 : (#[Value.slice (some a') dl dc', .slice (some ⟨b, o, none⟩) n c'] : Array Value)[1]? = some (.slice (some ⟨b, o, none⟩) n c') := rfl
    rw [h0, a0, a1]
    dsimp only
    rw [run_bind', run_underlying' _ _ _ hu]
    dsimp only
    have hlen : (Builtin.lenOf (.slice (some ⟨b, o, none⟩) n c')).run P w = .ok n w := rfl
    rw [run_bind', hlen]
    dsimp only
    rw [run_bind', run_sizeOf' _ _ _ hi]
    dsimp only
    have hfc : (Builtin.firstCells i.size (Nat.min n dl) (.slice (some ⟨b, o, none⟩) n c')).run P w = .ok (cs'.extract 0 (min n dl * i.size)) w := hload
    rw [run_bind', hfc]
    dsimp only
    rw [run_bind', e1]
    rfl
  cases hd with
  | @slice _ a' _ dc' _ hp hc =>
    obtain ⟨_, w', β', e1, x1, R1, rfl⟩ := sim_storeCells (P := P) hp hrel lim σ w () σ' hw hR (setCells_run _ 0 σ σ' hst) hfr
    exact main _ _ rfl ⟨w', β', e1, x1, R1⟩
  | void a' c' h =>
    rw [Nat.min_zero, Nat.zero_mul, List.take_zero] at hst
    simp only [AS.setCells, Option.some.injEq] at hst
    subst hst
    refine main _ _ rfl ⟨w, β, ?_, .refl _ _, hR⟩
    rw [Nat.min_zero, Nat.zero_mul]
    simp
    rfl

theorem run_lenL {argTypes : Array TypeId} {ty t el : TypeId} {b o n c' : Nat} {w : World} (h0 : argTypes[0]? = some t) (hu : P.underlying t = some (.slice el)) : (Builtin.len_ argTypes ty #[.slice (some ⟨b, o, none⟩) n c']).run P w = .ok (goInt n) w := by
  unfold Builtin.len_
  rw [h0]
  have : (#[Value.slice (some ⟨b, o, none⟩) n c'] : Array Value)[0]? = some (.slice (some ⟨b, o, none⟩) n c') := rfl
  rw [this]
  dsimp only
  rw [run_bind', run_underlying' _ _ _ hu]
  rfl

theorem run_eqNil {bt el : TypeId} {l c l' c' : Nat} {a a' : Option Addr} {w : World} (hu : P.underlying bt = some (.slice el)) (h : (a.isSome ∧ a' = none) ∨ (a = none ∧ a'.isSome)) : (Op.equal bt (.slice a l c) (.slice a' l' c')).run P w = .ok false w := by
  have hd : ∃ d, Op.maxDepth = d + 1 := ⟨Op.maxDepth - 1, by decide⟩
  obtain ⟨d, hd⟩ := hd
  unfold Op.equal
  rw [hd]
  unfold Op.equalIn
  rw [run_bind', run_underlying' _ _ _ hu]
  rcases h with ⟨h1, rfl⟩ | ⟨rfl, h1⟩
  · cases a with
    | none => cases h1
    | some a => rfl
  · cases a' with
    | none => cases h1
    | some a => rfl

theorem run_binNil {op : BinOp} {bt : TypeId} {x y : Operand} {l c l' c' : Nat} {a a' : Option Addr} {w : World} {v : Value} (hv : nilL P op bt = some v) (h : (a.isSome ∧ a' = none) ∨ (a = none ∧ a'.isSome)) :
    (do eqGuard op bt x y (.slice a l c) (.slice a' l' c'); binOp op bt (.slice a l c) (.slice a' l' c') : Sem Value).run P w = .ok v w := by
  unfold nilL at hv
  split at hv
  · rename_i el hu
    cases hv
    rw [run_bind', show (eqGuard .eql bt x y (.slice a l c) (.slice a' l' c')).run P w = .ok () w from rfl]
    show (do pure (.bool (← Op.equal bt (.slice a l c) (.slice a' l' c'))) : Sem Value).run P w = _
    rw [run_bind', run_eqNil hu h]; rfl
  · rename_i el hu
    cases hv
    rw [run_bind', show (eqGuard .neq bt x y (.slice a l c) (.slice a' l' c')).run P w = .ok () w from rfl]
    show (do pure (.bool (!(← Op.equal bt (.slice a l c) (.slice a' l' c')))) : Sem Value).run P w = _
    rw [run_bind', run_eqNil hu h]; rfl
  · cases hv

/-- A ROW THAT WAS JUST MADE BECOMES A LIST. -/
theorem freeze_R {β : Inj} {σ σ' : AS} {w : World} {known : Bool} {lim : Nat} {v v' u : Value} (hR : R K W0 N0 β σ w) (hv : vRel β v v')
    (hk : known = true → ∀ a l c cs lo, v = .slice (some a) l c → σ.get a.block = some (.cells cs true lo none) → Cells cs ∧ cs.length = l ∧ ∃ T, lo = (some 1, some T)) (h : freezeA P known lim v σ = some (u, σ')) : ∃ β', β'.m = β.m ∧ β.le β' ∧ R K W0 N0 β' σ' w ∧ vRel β' u v' := by
  unfold freezeA at h
  split at h
  case h_2 => cases h
  rename_i a l c
  cases hb : (Nat.beq a.off 0 && a.spot.isNone) with
  | false => rw [hb] at h; cases h
  | true =>
  rw [hb, cond_true] at h
  simp only [Bool.and_eq_true, Option.isNone_iff_eq_none] at hb
  have ho := Nat.eq_of_beq_eq_true hb.1
  have hsp := hb.2
  cases hv with
  | void a' c' hs => rw [hsp] at hs; cases hs
  | @slice _ a' _ c' _ hp hc =>
  obtain ⟨_, e, he, rfl⟩ := hp
  unfold freezeR at h
  split at h
  · rename_i cs T hg
    split at h
    case h_2 => cases h
    rename_i i hi
    cases hb : (Nat.ble lim a.block && Nat.beq l c && (known || Nat.beq cs.length (l * i.size) && (cs.map strip).all cellOk)) with
    | false => rw [hb] at h; cases h
    | true =>
    rw [hb, cond_true] at h
    cases known with
    | true =>
      obtain ⟨_, _, T', hT⟩ := hk rfl _ _ _ _ _ rfl hg
      cases hT
    | false =>
    cases h
    simp only [Bool.false_or, Bool.and_eq_true] at hb
    obtain ⟨⟨_, b2⟩, b3, b4⟩ := hb
    have b2 := Nat.eq_of_beq_eq_true b2
    have b3 := Nat.eq_of_beq_eq_true b3
    subst b2
    have hcc : c' = l := exact_cap hR hc (by unfold AS.exact; rw [hg])
    obtain ⟨C, ty, fr, hC, hcells, _, htl⟩ := hR.cells he hg
    obtain ⟨rfl, h5⟩ := htl.2 T rfl
    obtain ⟨h6, h7⟩ := h5 rfl
    obtain ⟨R1, hle⟩ := hR.rest he hg rfl hC
    have hrel : lRel β cs C.toList := lRel.of_get (by simp [h7]) fun j hj hj' => by
      obtain ⟨v', k1, k2⟩ := hcells j hj
      rw [h6, Nat.zero_add] at k1
      have hjC : j < C.size := by omega
      rw [Array.getElem?_eq_getElem hjC] at k1
      cases k1
      simpa using k2
    refine ⟨⟨β.m, zAdd β.z e.b C 0 C.size fun _ => none, β.lo⟩, rfl, hle, R1, ?_⟩
    rw [h6, ho, hcc]
    obtain ⟨hrel2, hcells2⟩ := strip_cells hrel b4
    show vRel _ (L (cs.map strip) l i.size 1) _
    refine Lst.shut (cs' := C) ⟨rfl, by rw [List.length_map]; exact b3, fun j hj => ⟨none, ?_⟩, hrel2.mono hle, hcells2, Nat.le_refl _, rfl⟩
    dsimp only
    rw [Nat.add_zero, Nat.zero_add, zAdd_in (Nat.zero_le _) hj, Array.getElem?_eq_getElem hj]; rfl
  · rename_i cs es T hg
    cases hb : (Nat.ble lim a.block && Nat.beq l c && (known || Nat.beq cs.length (l * es) && (cs.map strip).all cellOk) && Nat.blt 0 l && Nat.blt 0 es) with
    | false => rw [hb] at h; cases h
    | true =>
    rw [hb, cond_true] at h
    cases h
    simp only [Bool.and_eq_true] at hb
    obtain ⟨⟨⟨⟨_, b2⟩, b34⟩, b5⟩, b6⟩ := hb
    have b2 := Nat.eq_of_beq_eq_true b2
    have b3 : cs.length = l * es := by
      cases known with
      | true =>
        obtain ⟨_, h2, T', hT⟩ := hk rfl _ _ _ _ _ rfl hg
        cases hT
        rw [h2, Nat.mul_one]
      | false =>
        simp only [Bool.false_or, Bool.and_eq_true] at b34
        exact Nat.eq_of_beq_eq_true b34.1
    have b4 : ∀ ws, lRel β cs ws → lRel β (bif known then cs else cs.map strip) ws ∧ Cells (bif known then cs else cs.map strip) := by
      intro ws hws
      cases known with
      | true => exact ⟨hws, (hk rfl _ _ _ _ _ rfl hg).1⟩
      | false =>
        simp only [Bool.false_or, Bool.and_eq_true] at b34
        exact strip_cells hws b34.2
    have b7 : (bif known then cs else cs.map strip).length = cs.length := by cases known <;> simp
    have b5 := blt_iff.1 b5
    have b6 := blt_iff.1 b6
    subst b2
    obtain ⟨C, ty, fr, hC, hcells, hrw, htl⟩ := hR.cells he hg
    obtain ⟨hN, hfr⟩ := hrw rfl
    obtain ⟨rfl, _⟩ := htl.2 T rfl
    have htail : e.tail = some (cs.length, es, C.size) := htl.1
    have hpos : 0 < cs.length := by rw [b3]; exact Nat.mul_pos b5 b6
    have hfree := hR.zr.own he hg rfl
    have hfit : e.o + cs.length ≤ C.size := by
      obtain ⟨v', k1, _⟩ := hcells (cs.length - 1) (by omega)
      have := (Array.getElem?_eq_some_iff.1 k1).1
      omega
    obtain ⟨R1, hle⟩ := hR.grown he hg hpos b6 ⟨⟨_, _, htail⟩, hN⟩ (B := e.b) (o := e.o) (lo := e.o) hC hN hfr hfit (Nat.le_refl _) (by omega) (fun j hj => by omega) (fun j _ => hfree j)
      (fun b' j' v k real hz => by
        obtain ⟨_, i0, c0, h0⟩ := hR.zr.tags hz
        rw [hfree] at h0; cases h0)
      (fun id' e' z hb' hg' _ hid heq => by
        have := hR.excl (Ne.symm hid) he hb' hg hg' rfl heq.symm
        cases this)
      (.inl rfl)
      (fun j ej n' es' T' hj hbj hgj heq => by
        obtain ⟨k0, _, _, b, o2, C2, _, _, _, _, k6, _⟩ := hR.zr.tl hbj hgj
        obtain ⟨v0, hv0⟩ := k6 0 k0
        obtain ⟨_, i0, c0, h0⟩ := hR.zr.tags hv0
        rw [heq, hfree] at h0; cases h0)
      (fun j ej n' es' T' hj hbj hgj b o2 h _ => by
        rintro rfl
        obtain ⟨v0, r0, hv0⟩ := h 0 (hR.zr.tl hbj hgj).1
        rw [hfree] at hv0; cases hv0)
    have hA : (C.extract e.o (e.o + cs.length)).size = cs.length := by simp; omega
    have hrel : lRel β cs (C.extract e.o (e.o + cs.length)).toList := lRel.of_get (by simp; omega) fun j hj hj' => by
      obtain ⟨v', k1, k2⟩ := hcells j hj
      have hjC : e.o + j < C.size := by omega
      rw [Array.getElem?_eq_getElem hjC] at k1
      cases k1
      simpa using k2
    have hcap : l ≤ c' ∧ e.o + c' * es ≤ C.size := by
      rcases hc with rfl | ⟨e2, sz, es2, real, h1, h2, h3, h4, h5⟩
      · exact ⟨Nat.le_refl _, by omega⟩
      · rw [he] at h1; cases h1
        rw [htail] at h2; cases h2
        exact ⟨h5, by omega⟩
    refine ⟨⟨β.m, zAdd β.z e.b C e.o (e.o + cs.length) fun j => some (e.b, j - e.o, C.size), β.lo⟩, rfl, hle, R1, ?_⟩
    rw [ho]
    obtain ⟨hrel2, hcells2⟩ := b4 _ hrel
    refine Lst.shut (cs' := C.extract e.o (e.o + cs.length)) ⟨rfl, b7.trans b3, fun j hj => ?_, hrel2.mono hle, hcells2, hcap.1, ?_⟩
    · refine ⟨some (e.b, e.o + j - e.o, C.size), ?_⟩
      rw [hA] at hj
      dsimp only
      rw [Nat.add_zero, zAdd_in (by omega) (by omega), Array.getElem?_eq_getElem (by omega)]
      simp
    · rw [b7]
      refine ⟨e, _, _, he, htail, hpos, fun j hj => ?_⟩
      refine ⟨C[e.o + j]'(by omega), C.size, ?_, by omega⟩
      dsimp only
      rw [Nat.add_zero, zAdd_in (by omega) (by omega), Array.getElem?_eq_getElem (by omega), show e.o + j - e.o = j by omega]
      rfl
  · cases h

/-- A new block comes to rest at once. -/
theorem R.rested {β : Inj} {σ : AS} {w : World} (hR : R K W0 N0 β σ w) (C : Array Value) (T : TypeId) :
    R K W0 N0 ⟨β.m, zAdd β.z w.heap.size C 0 C.size fun _ => none, β.lo⟩ σ { w with heap := w.heap.push (.cells C T (0, 0)) } ∧ β.le ⟨β.m, zAdd β.z w.heap.size C 0 C.size fun _ => none, β.lo⟩ := by
  have R0 := hR.below ((Below.refl w.heap.size w).alloc (Nat.le_refl _) (.cells C T (0, 0)))
  have zlt : ∀ {b j c}, β.z b j = some c → b < w.heap.size := fun h => hR.zlt h
  have out : ∀ {b j}, b < w.heap.size → zAdd β.z w.heap.size C 0 C.size (fun _ => none) b j = β.z b j := fun h => zAdd_out (by rintro ⟨h1, _⟩; omega)
  have hle : β.le ⟨β.m, zAdd β.z w.heap.size C 0 C.size fun _ => none, β.lo⟩ := by
    refine ⟨fun _ _ h => h, fun b j c h => ?_, rfl, fun b j c h hb => ?_, fun b j v T' k r h hb => ?_⟩
    · dsimp only
      rw [out (zlt h)]; exact h
    · dsimp only at h
      rcases zAdd_inv h with ⟨rfl, _⟩ | ⟨_, h⟩
      · have := hR.zr.lo; have := hR.top; omega
      · exact h
    · dsimp only at h
      rcases zAdd_inv h with ⟨_, _, _, _, h5⟩ | ⟨_, h⟩
      · cases h5
      · exact h
  have hC : (w.heap.push (Obj.cells C T (0, 0)))[w.heap.size]? = some (.cells C T (0, 0)) := by rw [Array.getElem?_push]; simp
  refine ⟨R0.rez rfl hle (fun _ _ h => .inl h) ?_, hle⟩
  exact
  { lo := hR.zr.lo
    zone := fun {b j c} hc => by
      dsimp only at hc
      rcases zAdd_inv hc with ⟨rfl, _, _, h4, _⟩ | ⟨_, h5⟩
      · exact ⟨C, T, (0, 0), hC, h4⟩
      · exact R0.zr.zone h5
    own := fun {id e x} hb hg hx j => by
      dsimp only
      rw [out (hR.lt hb)]
      exact hR.zr.own hb hg hx j
    tl := fun {id e n esz T'} hb hg => by
      refine (R0.zr.tl hb hg).other rfl (fun j k real h => by cases h) (fun b o h _ => by
        obtain ⟨v, r, hv⟩ := h 0 (R0.zr.tl hb hg).1
        have := zlt hv; omega) (fun b _ _ => rfl) fun id' e' x hb' hg' hx => ⟨_, _, _, .inl ⟨hb', hg', hx, rfl⟩⟩
    uni := hR.zr.uni
    tags := fun {b j v T' k real} hc => by
      dsimp only at hc
      rcases zAdd_inv hc with ⟨_, _, _, _, h5⟩ | ⟨_, h5⟩
      · cases h5
      · obtain ⟨h6, i, c, h7⟩ := R0.zr.tags h5
        exact ⟨h6, i, c, hle.z _ _ _ h7⟩ }

theorem sim2_litL {β : Inj} (hZ : ZeroOk P) {t : TypeId} {n : Nat} {ps ps' : Array (Nat × Value)} (h : psRel β ps.toList ps'.toList) : Sim2 P K W0 N0 β (fun σ => (litL P t n ps).map fun v => (v, σ)) (Instr.buildSlice t n ps') := by
  intro σ w v σ' hw hR hr hf
  cases hx : litL P t n ps with
  | none => rw [hx] at hr; cases hr
  | some u =>
  rw [hx] at hr
  cases hr
  unfold litL at hx
  cases hu : P.underlying t with
  | none => rw [hu] at hx; cases hx
  | some d =>
  rw [hu] at hx
  cases d <;> first | (cases hx; done) | skip
  rename_i elem
  dsimp only at hx
  cases hi : P.info? elem with
  | none => rw [hi] at hx; cases hx
  | some i =>
  rw [hi] at hx
  dsimp only at hx
  cases hb : Nat.ble (n * i.size) 16777216 with
  | false => rw [hb] at hx; cases hx
  | true =>
  rw [hb, cond_true] at hx
  have hle : n * i.size ≤ 16777216 := Nat.ble_eq ▸ hb
  split at hx
  case h_2 => cases hx
  rename_i z hz
  split at hx
  case h_2 => cases hx
  rename_i cells hfill
  cases hc : ((cells.toList.map strip).all cellOk && Nat.beq cells.size (n * i.size)) with
  | false => rw [hc] at hx; cases hx
  | true =>
  rw [hc, cond_true] at hx
  cases hx
  simp only [Bool.and_eq_true] at hc
  have hsz := Nat.eq_of_beq_eq_true hc.2
  have hzr : arrRel β z z := by
    cases h0 : Nat.beq (n * i.size) 0 with
    | true => rw [h0] at hz; cases hz; exact arrRel_empty
    | false =>
      rw [h0, cond_false] at hz
      cases hzz : i.zero with
      | none => rw [hzz] at hz; cases hz
      | some zv => rw [hzz] at hz; cases hz; exact cells_rel ((hZ _ _ _ hi hzz).2 β)
  rcases fill_rel (fun j => some (j * i.size, i.size)) h (arrRel_map (l := Array.range (n * i.size)) fun j => arrRel_getBang hzr (j % z.size)) with ⟨h1, _⟩ | ⟨r, r', h1, h2, hrr⟩
  · rw [hfill] at h1; cases h1
  · rw [hfill] at h1
    cases h1
    have hrun : (Instr.buildSlice t n ps').run P w = .ok (.slice (some ⟨w.heap.size, 0, none⟩) n n) { w with heap := w.heap.push (.cells r' elem (0, 0)) } := by
      unfold Instr.buildSlice
      rw [run_bind', run_underlying' _ _ _ hu]
      dsimp only
      rw [run_bind', run_sizeOf' _ _ _ hi]
      dsimp only
      rw [if_neg (by omega : ¬ n * i.size > 2 ^ 24)]
      cases h0 : Nat.beq (n * i.size) 0 with
      | true =>
        rw [h0] at hz; cases hz
        rw [if_pos (Nat.eq_of_beq_eq_true h0), run_bind', show (pure #[] : Sem (Array Value)).run P w = .ok #[] w from rfl]
        dsimp only
        rw [h2]; rfl
      | false =>
        rw [h0, cond_false] at hz
        have h0' : n * i.size ≠ 0 := by intro e; rw [e] at h0; simp at h0
        cases hzz : i.zero with
        | none => rw [hzz] at hz; cases hz
        | some zv =>
          rw [hzz] at hz; cases hz
          rw [if_neg h0', run_bind', run_zeroValue' _ _ _ _ hi hzz]
          dsimp only
          rw [run_bind', show (pure zv.cells : Sem (Array Value)).run P w = .ok zv.cells w from rfl]
          dsimp only
          rw [h2]; rfl
    obtain ⟨R1, hle1⟩ := hR.rested r' elem
    have hrel : lRel β cells.toList r'.toList := arrRel_iff.1 hrr
    obtain ⟨hrel2, hcells2⟩ := strip_cells hrel hc.1
    refine ⟨_, _, _, hrun, ⟨hle1, fun _ _ h => .inl h⟩, R1, ?_⟩
    refine Lst.shut (cs' := r') ⟨rfl, by simp [hsz], fun j hj => ⟨none, ?_⟩, hrel2.mono hle1, hcells2, Nat.le_refl _, rfl⟩
    dsimp only
    rw [Nat.zero_add, zAdd_in (Nat.zero_le _) hj, Array.getElem?_eq_getElem hj]; rfl

/-- []byte of a row of bytes: the row becomes a list; the end of its block is marked. -/
theorem sim2_sameRow {β : Inj} {lim : Nat} {src dst : TypeId} {a : Addr} {l c : Nat} {x' : Value} (hx : vRel β (.slice (some a) l c) x') (ht : sameT P src dst = true) :
    Sim2 P K W0 N0 β (fun σ => freezeA P false lim (.slice (some a) l c) σ) (convert src dst x') := by
  intro σ w v σ' hw hR hr hf
  dsimp only at hr
  have hrow : a.spot = none ∧ (∃ cs lo, σ.get a.block = some (.cells cs true lo none)) ∧ ∀ j y, j ≠ a.block → σ'.get j = some y → σ.get j = some y := by
    unfold freezeA at hr
    dsimp only at hr
    cases hb : (Nat.beq a.off 0 && a.spot.isNone) with
    | false => rw [hb] at hr; cases hr
    | true =>
    rw [hb, cond_true] at hr
    simp only [Bool.and_eq_true, Option.isNone_iff_eq_none] at hb
    refine ⟨hb.2, ?_⟩
    unfold freezeR at hr
    split at hr
    · rename_i cs T hg
      split at hr
      case h_2 => cases hr
      rename_i i hi
      cases hb2 : (Nat.ble lim a.block && Nat.beq l c && (false || Nat.beq cs.length (l * i.size) && (cs.map strip).all cellOk)) with
      | false => rw [hb2] at hr; cases hr
      | true =>
        rw [hb2, cond_true] at hr
        cases hr
        exact ⟨⟨_, _, hg⟩, fun j y hj hy => by rw [AS.get_put, if_neg hj] at hy; exact hy⟩
    · rename_i cs es T hg
      cases hb2 : (Nat.ble lim a.block && Nat.beq l c && (false || Nat.beq cs.length (l * es) && (cs.map strip).all cellOk) && Nat.blt 0 l && Nat.blt 0 es) with
      | false => rw [hb2] at hr; cases hr
      | true =>
        rw [hb2, cond_true] at hr
        cases hr
        exact ⟨⟨_, _, hg⟩, fun j y hj hy => by rw [AS.get_put, if_neg hj] at hy; exact hy⟩
    · cases hr
  obtain ⟨hsp, ⟨cs, lo, hg⟩, hget⟩ := hrow
  have hx0 := hx
  cases hx with
  | void a' c' hs => rw [hsp] at hs; cases hs
  | @slice _ a' _ c' _ hp hc =>
  obtain ⟨_, e, he, rfl⟩ := hp
  obtain ⟨C, ty, fr, hC, _, hrw, _⟩ := hR.cells he hg
  obtain ⟨hN, _⟩ := hrw rfl
  obtain ⟨β', hm, hle, R1, hv⟩ := freeze_R hR hx0 (fun h => by cases h) hr
  have hnx : σ'.next = σ.next := by
    unfold freezeA at hr
    dsimp only at hr
    cases hb : (Nat.beq a.off 0 && a.spot.isNone) with
    | false => rw [hb] at hr; cases hr
    | true =>
    rw [hb, cond_true] at hr
    unfold freezeR at hr
    split at hr
    · split at hr
      case h_2 => cases hr
      rename_i i hi
      cases hb2 : (Nat.ble lim a.block && Nat.beq l c && (false || Nat.beq ‹List Value›.length (l * i.size) && (‹List Value›.map strip).all cellOk)) with
      | false => rw [hb2] at hr; cases hr
      | true => rw [hb2, cond_true] at hr; cases hr; rfl
    · rename_i cs es T hg
      cases hb2 : (Nat.ble lim a.block && Nat.beq l c && (false || Nat.beq cs.length (l * es) && (cs.map strip).all cellOk) && Nat.blt 0 l && Nat.blt 0 es) with
      | false => rw [hb2] at hr; cases hr
      | true => rw [hb2, cond_true] at hr; cases hr; rfl
    · cases hr
  have hnt : ∀ id' e' y, β' id' = some e' → σ'.get id' = some y → NT y → e'.b ≠ e.b := by
    intro id' e' y hb' hg' hy heq
    rw [hm] at hb'
    by_cases hid : id' = a.block
    · subst hid
      unfold freezeA at hr
      dsimp only at hr
      cases hb : (Nat.beq a.off 0 && a.spot.isNone) with
      | false => rw [hb] at hr; cases hr
      | true =>
      rw [hb, cond_true] at hr
      unfold freezeR at hr
      split at hr
      · split at hr
        case h_2 => cases hr
        rename_i i hi
        cases hb2 : (Nat.ble lim a.block && Nat.beq l c && (false || Nat.beq ‹List Value›.length (l * i.size) && (‹List Value›.map strip).all cellOk)) with
        | false => rw [hb2] at hr; cases hr
        | true => rw [hb2, cond_true] at hr; cases hr; rw [AS.get_put, if_pos rfl] at hg'; cases hg'
      · rename_i cs es T hg
        cases hb2 : (Nat.ble lim a.block && Nat.beq l c && (false || Nat.beq cs.length (l * es) && (cs.map strip).all cellOk) && Nat.blt 0 l && Nat.blt 0 es) with
        | false => rw [hb2] at hr; cases hr
        | true => rw [hb2, cond_true] at hr; cases hr; rw [AS.get_put, if_pos rfl] at hg'; cases hg'; exact hy
      · cases hr
    · have := hR.excl (Ne.symm hid) he hb' hg (hget _ _ hid hg') rfl heq.symm
      cases this
  unfold sameT at ht
  rw [Bool.and_eq_true] at ht
  obtain ⟨ht1, ht2⟩ := ht
  have ht1 := Nat.eq_of_beq_eq_true ht1
  subst ht1
  split at ht2
  case h_2 => cases ht2
  rename_i el hu1
  split at ht2
  case h_2 => cases ht2
  rename_i hu2
  refine ⟨.slice (some ⟨e.b, e.o + a.off, none⟩) l c', w.freeze ⟨e.b, C.size, none⟩ 1, β', ?_, ⟨hle, fun i ei hi => .inl (by rw [← hm]; exact hi)⟩, R1.freezeZ hC hN hnt, hv⟩
  unfold convert
  rw [run_bind', run_underlying' _ _ _ hu1]
  dsimp only
  rw [run_bind', run_underlying' _ _ _ hu1]
  dsimp only
  rw [run_bind', run_underlying' _ _ _ hu2]
  have hs : w.shape? e.b = some (ty, C.size) := shape_of_heap hC
  simp only [beq_self_eq_true]
  rw [run_bind']
  have hmk : (markStringish ⟨e.b, e.o + a.off, none⟩).run P w = .ok () (w.freeze ⟨e.b, C.size, none⟩ 1) := by
    unfold markStringish
    rw [run_bind']
    have r1 : (shape e.b).run P w = .ok (some (ty, C.size)) w := by
      show (Sem.shape e.b .pure).run P _ = _
      simp only [Sem.run, hs]
    rw [r1]
    rfl
  rw [hmk]
  rfl

theorem sim2_convAll {β : Inj} {lim : Nat} {src dst : TypeId} {x x' : Value} (hx : vRel β x x') : Sim2 P K W0 N0 β (fun σ => convA P lim src dst x σ) (convert src dst x') := by
  by_cases h : ∃ a l c, x = .slice (some a) l c ∧ sameT P src dst = true
  · obtain ⟨a, l, c, rfl, ht⟩ := h
    have := sim2_sameRow (K := K) (W0 := W0) (N0 := N0) (lim := lim) hx ht
    intro σ w v σ' hw hR hr hf
    refine this σ w v σ' hw hR ?_ hf
    simp only [convA, ht, cond_true] at hr
    exact hr
  · refine sim2_conv hx fun a l c hxe => ?_
    cases ht : sameT P src dst with
    | false => rfl
    | true => exact absurd ⟨a, l, c, hxe, ht⟩ h

/-- The whole of an array becomes a list. -/
theorem freezeB_R {β : Inj} {σ σ' : AS} {w : World} {lim : Nat} {v v' u : Value} (hR : R K W0 N0 β σ w) (hv : vRel β v v') (h : freezeB lim v σ = some (u, σ')) : ∃ β', β'.m = β.m ∧ β.le β' ∧ R K W0 N0 β' σ' w ∧ vRel β' u v' ∧ σ'.next = σ.next := by
  unfold freezeB at h
  split at h
  case h_2 => cases h
  rename_i a l c
  cases hb : (Nat.beq a.off 0 && a.spot.isNone) with
  | false => rw [hb] at h; cases h
  | true =>
  rw [hb, cond_true] at h
  simp only [Bool.and_eq_true, Option.isNone_iff_eq_none] at hb
  have ho := Nat.eq_of_beq_eq_true hb.1
  have hsp := hb.2
  cases hv with
  | void a' c' hs => rw [hsp] at hs; cases hs
  | @slice _ a' _ c' _ hp hc =>
  obtain ⟨_, e, he, rfl⟩ := hp
  split at h
  case h_2 => cases h
  rename_i cs T hg
  cases hb : (Nat.ble lim a.block && Nat.beq l c && Nat.beq cs.length l && (cs.map strip).all cellOk) with
  | false => rw [hb] at h; cases h
  | true =>
    rw [hb, cond_true] at h
    cases h
    simp only [Bool.and_eq_true] at hb
    obtain ⟨⟨⟨_, b2⟩, b3⟩, b4⟩ := hb
    have b2 := Nat.eq_of_beq_eq_true b2
    have b3 := Nat.eq_of_beq_eq_true b3
    subst b2
    have hcc : c' = l := exact_cap hR hc (by unfold AS.exact; rw [hg])
    obtain ⟨C, ty, fr, hC, hcells, _, htl⟩ := hR.cells he hg
    obtain ⟨rfl, h5⟩ := htl.2 T rfl
    obtain ⟨h6, h7⟩ := h5 rfl
    obtain ⟨R1, hle⟩ := hR.rest he hg rfl hC
    have hrel : lRel β cs C.toList := lRel.of_get (by simp [h7]) fun j hj hj' => by
      obtain ⟨v', k1, k2⟩ := hcells j hj
      rw [h6, Nat.zero_add] at k1
      have hjC : j < C.size := by omega
      rw [Array.getElem?_eq_getElem hjC] at k1
      cases k1
      simpa using k2
    refine ⟨⟨β.m, zAdd β.z e.b C 0 C.size fun _ => none, β.lo⟩, rfl, hle, R1, ?_, rfl⟩
    rw [h6, ho, hcc]
    obtain ⟨hrel2, hcells2⟩ := strip_cells hrel b4
    show vRel _ (L (cs.map strip) l 1 1) _
    refine Lst.shut (cs' := C) ⟨rfl, by rw [List.length_map, Nat.mul_one]; exact b3, fun j hj => ⟨none, ?_⟩, hrel2.mono hle, hcells2, Nat.le_refl _, rfl⟩
    dsimp only
    rw [Nat.add_zero, Nat.zero_add, zAdd_in (Nat.zero_le _) hj, Array.getElem?_eq_getElem hj]; rfl

theorem sim2_sliceX {E : Env} {β : Inj} {o : Oper} {t : TypeId} {x x' : Value} {lo lo' hi hi' mx mx' : Option Value} (hx : vRel β x x') (h1 : ovRel β lo lo') (h2 : ovRel β hi hi') (h3 : ovRel β mx mx') (lim : Nat) :
    Sim2 P K W0 N0 β (fun σ => sliceX P E lim o t x lo hi mx σ) (Instr.sliceAt t x' lo' hi' mx') := by
  intro σ w v σ' hw hR hr hf
  unfold sliceX at hr
  dsimp only at hr
  cases hb : (isPtr x && E.rest o) with
  | false =>
    rw [hb, cond_false] at hr
    exact sim2_slice hx h1 h2 h3 lim σ w v σ' hw hR hr hf
  | true =>
    rw [hb, cond_true] at hr
    split at hr
    · rename_i u σ1 hs
      have hnx : σ'.next = σ1.next := by
        unfold freezeB at hr
        split at hr
        case h_2 => cases hr
        rename_i a l c
        cases hb2 : (Nat.beq a.off 0 && a.spot.isNone) with
        | false => rw [hb2] at hr; cases hr
        | true =>
          rw [hb2, cond_true] at hr
          split at hr
          case h_2 => cases hr
          rename_i cs T hg
          cases hb3 : (Nat.ble lim a.block && Nat.beq l c && Nat.beq cs.length l && (cs.map strip).all cellOk) with
          | false => rw [hb3] at hr; cases hr
          | true => rw [hb3, cond_true] at hr; cases hr; rfl
      obtain ⟨u', w', β1, e1, x1, R1, hv1⟩ := sim2_slice hx h1 h2 h3 lim σ w u σ1 hw hR hs (fun i h1 h2 => hf i h1 (by rw [hnx]; exact h2))
      obtain ⟨β2, hm, hle, R2, hv2, _⟩ := freezeB_R R1 hv1 hr
      refine ⟨u', w', β2, e1, ⟨x1.1.trans hle, fun i e he => ?_⟩, R2, hv2⟩
      rw [hm] at he
      rw [hnx]
      exact x1.2 i e he
    · cases hr

end Go.Va

/-
  SIMULATION: an operation of a region, calls among them.
-/
namespace Go.Va
open Go.RowKit
variable {P : Program} {K : FuncId → Code → Prop} {W0 : World} {N0 G : Nat}

/-- The globals lie where they lie. -/
def GlobOk (G : Nat) (β : Inj) : Prop := ∀ g, g < G → β g = some ⟨g, 0, none⟩
theorem GlobOk.mono {β β' : Inj} (hb : β.le β') (h : GlobOk G β) : GlobOk G β' := fun g hg => hb.m _ _ (h g hg)

def okO (G : Nat) : Operand → Bool
  | .const v => plainB 100 v
  | .global g => Nat.blt g G
  | _ => true

def opB (G : Nat) (o : Oper) : Bool :=
  o.op.operands.toList.all (okO G) && (match o.op with
    | .makeFunc (.yield _) _ _ | .select .. => false
    | _ => true)

theorem rel_undef {β : Inj} : vRel β undef undef := plain_rel 2 undef rfl

theorem ev_rel {β : Inj} (hG : GlobOk G β) {t : List Value} {tr : Array Value} (ht : lRel β t tr.toList) {x : Operand} (hx : okO G x = true) : vRel β (ev t x) (evA tr x) := by
  cases x with
  | tmp i =>
    simp only [ev, evA]
    cases h : t[i]? with
    | none =>
      have h' := ht.none i h
      rw [Array.getElem?_toList] at h'
      rw [List.getD_eq_getElem?_getD, h, Array.getD_eq_getD_getElem?, h']
      exact rel_undef
    | some v =>
      obtain ⟨v', h', hv⟩ := ht.getElem? i h
      rw [Array.getElem?_toList] at h'
      rw [List.getD_eq_getElem?_getD, h, Array.getD_eq_getD_getElem?, h']
      exact hv
  | const v => exact plain_rel 100 v hx
  | global g =>
    simp only [okO] at hx
    exact .ptr ⟨rfl, _, hG g (by rw [Nat.blt_eq] at hx; exact hx), by simp⟩
  | func f => exact .func rfl rfl (fun i h => by simp at h) rfl (fun i h => by simp at h)

/-- What a step must come to. 'σ', 'σ'': the run of the interpreter; 'τ': a heap that is like the first, in which more may lie. -/
def Post (K : FuncId → Code → Prop) (W0 : World) (N0 : Nat) (β : Inj) (σ σ' τ : AS) (v : Value) (v' : Value) (w' : World) : Prop :=
  ∃ β' τ', Ext β β' σ σ' ∧ σ'.Led τ τ' ∧ R K W0 N0 β' τ' w' ∧ vRel β' v v'

theorem Post.trans {β β1 : Inj} {σ σ1 σ' τ τ1 : AS} {v v' : Value} {w' : World} (h : Post K W0 N0 β1 σ1 σ' τ1 v v' w') (x : Ext β β1 σ σ1) (hl : σ1.Led τ τ1) (h1 : σ.next ≤ σ1.next) (h2 : σ1.next ≤ σ'.next) : Post K W0 N0 β σ σ' τ v v' w' := by
  obtain ⟨β', τ', x1, l1, r, hv⟩ := h
  exact ⟨β', τ', x.trans x1 h1 h2, hl.trans l1 h2, r, hv⟩

theorem Fresh.like {β : Inj} {σ σ' τ τ' : AS} (h : Fresh β σ σ') (hl : σ.Like τ) (hl' : σ'.Led τ τ') : Fresh β τ τ' := fun i h1 h2 => h i (by have := hl.1; omega) (by have := hl'.next; omega)
theorem Ext.like {β β' : Inj} {σ σ' τ τ' : AS} (h : Ext β β' τ τ') (hl : σ.Like τ) (hl' : σ'.Led τ τ') : Ext β β' σ σ' := ⟨h.1, fun i e he => by
  have h1 := hl.1
  have h2 := hl'.next
  rcases h.2 i e he with h3 | h3
  · exact .inl h3
  · exact .inr (by omega)⟩

theorem Sim.at {α α' : Type} {β : Inj} {s : Sem α} {s' : Sem α'} {A : Inj → α → α' → Prop} (h : Sim P K W0 N0 β s s' A) {lim : Nat} {σ σ' τ : AS} {v : α} {w : World} (hw : σ.Wf) (hl : σ.Like τ) (hR : R K W0 N0 β τ w)
    (hr : runA P lim s σ = some (v, σ')) (hf : Fresh β σ σ') : ∃ v' w' β' τ', s'.run P w = .ok v' w' ∧ Ext β β' σ σ' ∧ σ'.Led τ τ' ∧ R K W0 N0 β' τ' w' ∧ A β' v v' := by
  obtain ⟨τ', e1, l1⟩ := (blind_runA s hr hw).2 τ hl
  obtain ⟨v', w', β', e, x, r, ha⟩ := h lim τ w v τ' trivial hR e1 (hf.like hl l1)
  exact ⟨v', w', β', τ', e, x.like hl l1, l1, r, ha⟩

theorem Sim2.lands {β : Inj} {f : AS → Option (Value × AS)} {s' : Sem Value} (h : Sim2 P K W0 N0 β f s') {lim : Nat} (hg : Good lim f) {σ σ' τ : AS} {v : Value} {w : World} (hw : σ.Wf) (hl : σ.Like τ) (hR : R K W0 N0 β τ w) (hr : f σ = some (v, σ')) (hf : Fresh β σ σ') :
    Lands P (do pure (Next.value (← s'))) w (Post K W0 N0 β σ σ' τ v) := by
  obtain ⟨τ', e1, l1⟩ := (hg σ v σ' hr hw).2 τ hl
  obtain ⟨v', w', β', e, x, r, hv⟩ := h τ w v τ' trivial hR e1 (hf.like hl l1)
  exact .value (by rw [run_bind', e]; rfl) ⟨β', τ', x.like hl l1, l1, r, hv⟩

theorem nLands {β : Inj} {s s' : Sem Next} (h : Sim P K W0 N0 β s s' nRel) {lim : Nat} {σ σ' τ : AS} {n : Next} {w : World} (hw : σ.Wf) (hl : σ.Like τ) (hR : R K W0 N0 β τ w) (hr : runA P lim s σ = some (n, σ')) (hf : Fresh β σ σ') :
    (∀ v, n = .value v → Lands P s' w (Post K W0 N0 β σ σ' τ v)) ∧ (n = .skip → Lands P s' w (Post K W0 N0 β σ σ' τ undef)) := by
  obtain ⟨n', w', β', τ', e, x, l, r, hv⟩ := h.at hw hl hR hr hf
  constructor
  · rintro v rfl
    obtain ⟨v', rfl, hv⟩ := hv
    exact .value e ⟨β', τ', x, l, r, hv⟩
  · rintro rfl
    have hv : n' = .skip := hv
    subst hv
    exact .skip e ⟨β', τ', x, l, r, rel_undef⟩

/-! ## Calls -/

section
variable (P K W0 N0 G)
def CallOk (rec : Rec) : Prop := ∀ lim f args σ v σ', rec lim (.call f args) σ = some (.val v, σ') → ∀ β τ w (args' : Array Value), σ.Wf → σ.Like τ → R K W0 N0 β τ w → Fresh β σ σ' → GlobOk G β → lRel β args args'.toList →
  Lands P (callFunc f args') w (Post K W0 N0 β σ σ' τ v)
def RoundOk (rec : Rec) : Prop := ∀ lim l f t a body σ v σ', rec lim (.round l f t a body) σ = some (.val v, σ') → ∀ β τ w (tr : Array Value) e, σ.Wf → σ.Like τ → R K W0 N0 β τ w → Fresh β σ σ' → GlobOk G β →
  β l = some e → e.o = 0 → lRel β t tr.toList → K f a → K f body →
  ∀ (c : Frame) cs, ∃ v' w', Post K W0 N0 β σ σ' τ v v' w' ∧ Steps P (lone (Frame.round e.b f tr a body .normal) (c :: cs) w) (lone (c.finish v') cs w')
def OvOk (E : Env) : Prop := ∀ f args lim σ v σ', E.isOv f = true → E.ov f args lim σ = some (v, σ') → ∀ β τ w (args' : Array Value), σ.Wf → σ.Like τ → R K W0 N0 β τ w → Fresh β σ σ' → GlobOk G β → lRel β args args'.toList →
  Lands P (callFunc f args') w (Post K W0 N0 β σ σ' τ v)
end

variable {E : Env} {rec : Rec}

theorem enter_lands (hE : OvOk P K W0 N0 G E) (hc : CallOk P K W0 N0 G rec) {lim : Nat} {f : FuncId} {args : List Value} {σ σ' : AS} {v : Value} (hr : enterA P E rec lim f args σ = some (v, σ')) {β : Inj} {w : World} {args' : Array Value}
    {τ : AS} (hw : σ.Wf) (hl : σ.Like τ) (hR : R K W0 N0 β τ w) (hf : Fresh β σ σ') (hG : GlobOk G β) (ha : lRel β args args'.toList) : Lands P (callFunc f args') w (Post K W0 N0 β σ σ' τ v) := by
  unfold enterA at hr
  cases ho : E.isOv f with
  | true =>
    rw [ho, cond_true] at hr
    exact hE _ _ _ _ _ _ ho hr _ _ _ _ hw hl hR hf hG ha
  | false =>
    rw [ho, cond_false] at hr
    split at hr
    · rename_i h
      cases hr
      exact hc _ _ _ _ _ _ h _ _ _ _ hw hl hR hf hG ha
    · cases hr

theorem apply_lands (hE : OvOk P K W0 N0 G E) (hgr : RecGood rec) (hc : CallOk P K W0 N0 G rec) (hrd : RoundOk P K W0 N0 G rec) {lim : Nat} {f f' : Value} {args : List Value} {σ σ' : AS} {v : Value} (hr : applyA P E rec lim f args σ = some (v, σ')) {β : Inj} {w : World} {args' : Array Value}
    {τ : AS} (hw : σ.Wf) (hl : σ.Like τ) (hR : R K W0 N0 β τ w) (hf : Fresh β σ σ') (hG : GlobOk G β) (hff : vRel β f f') (ha : lRel β args args'.toList) :
    Lands P (do let d ← Deferred.ofValue f' args'; invoke d.target d.args) w (Post K W0 N0 β σ σ' τ v) := by
  unfold applyA at hr
  split at hr
  · rename_i g first captured
    cases hff with
    | @func fn fn' _ first' _ captured' hfn h1 h2 h3 h4 =>
    have hfn : fn' = .func g := hfn
    subst hfn
    have e : (do let d ← Deferred.ofValue (.func (.func g) first' captured') args'; invoke d.target d.args : Sem Next) = callFunc g ((first' ++ args') ++ captured') := rfl
    rw [e]
    refine enter_lands hE hc hr hw hl hR hf hG ?_
    simp only [Array.toList_append]
    exact ((arrRel_iff.1 ⟨h1, h2⟩).append ha).append (arrRel_iff.1 ⟨h3, h4⟩)
  · rename_i l first captured
    cases hff with
    | @func fn fn' _ first' _ captured' hfn h1 h2 h3 h4 =>
    obtain ⟨e, he, h0, rfl⟩ := hfn
    have e1 : (do let d ← Deferred.ofValue (.func (.yield e.b) first' captured') args'; invoke d.target d.args : Sem Next) = Instr.yield e.b (first' ++ args') := rfl
    rw [e1]
    split at hr
    case h_2 => cases hr
    rename_i l2 fn t a body σ1 h1r
    split at hr
    case h_2 => cases hr
    rename_i v2 σ2 h2r
    simp only [Option.some.injEq, Prod.mk.injEq] at hr
    obtain ⟨rfl, rfl⟩ := hr
    have k1 := kept_runA h1r hw
    have k2 := (hgr _ _ _ _ _ h2r (k1.wf hw)).1
    have hargs : arrRel β (first ++ args.toArray) (first' ++ args') := arrRel_iff.2 (by
      simp only [Array.toList_append]
      exact (arrRel_iff.1 ⟨h1, h2⟩).append ha)
    obtain ⟨n', w1, β1, τ1, er, x1, l1, R1, hy⟩ := (sim_yield (P := P) (K := K) (W0 := W0) (N0 := N0) he h0 hargs).at hw hl hR h1r (hf.left k2.next)
    obtain ⟨l3, e3, fn3, t3, t3', a3, b3, hn, hn', he3, h03, ht3, hka, hkb⟩ := hy
    cases hn
    subst hn'
    refine .round er fun c cs => ?_
    obtain ⟨v', w', hp, hs⟩ := hrd _ _ _ _ _ _ _ _ _ h2r β1 τ1 w1 t3' e3 (k1.wf hw) l1.like R1 (hf.right x1 k1.next) (hG.mono x1.1) he3 h03 (arrRel_iff.1 ht3) hka hkb c cs
    exact ⟨v', w', hp.trans x1 l1 k1.next k2.next, hs⟩
  · cases hr

/-! ## Operations -/

theorem run_eqGuard {β : Inj} {op : BinOp} {t : TypeId} {x y : Operand} {a a' b b' : Value} (ha : vRel β a a') (hb : vRel β b b') (h : binOkA P op t (isC x || isC y) a b = true) (w : World) : (eqGuard op t x y a' b').run P w = .ok () w := by
  unfold eqGuard
  cases hq : isEq op with
  | false => cases op <;> first | rfl | cases hq
  | true =>
    cases ha <;> cases hb <;> first | (cases op <;> first | rfl | (cases hq; done)) | skip
    case nilIface.nilIface =>
      simp only [binOkA, Bool.and_eq_true] at h
      have hx : (isC x || isC y) = true := h.1
      cases op <;> first | (cases hq; done) | (cases x <;> cases y <;> first | rfl | cases hx)
    case agg.agg =>
      simp only [binOkA, Bool.and_eq_true, Bool.not_eq_true'] at h
      have h3 := h.2
      cases op <;> first | (cases hq; done) | (
        show (Go.program >>= fun p => Go.program >>= fun q => _).run P w = _
        have : (Go.program).run P w = .ok P w := rfl
        simp [this, h3])

theorem eqGuard_lands {β : Inj} {op : BinOp} {t : TypeId} {x y : Operand} {a a' b b' : Value} (ha : vRel β a a') (hb : vRel β b b') (h : binOkA P op t (isC x || isC y) a b = true) {w : World} {Q : Value → World → Prop}
    (hl : Lands P (do pure (Next.value (← binOp op t a' b'))) w Q) : Lands P (do pure (Next.value (← (do eqGuard op t x y a' b'; binOp op t a' b')))) w Q := by
  refine hl.congr ?_
  simp only [run_bind', run_eqGuard ha hb h w]

theorem operB_lands (hZ : ZeroOk P) (hE : OvOk P K W0 N0 G E) (hgr : RecGood rec) (hc : CallOk P K W0 N0 G rec) (hrd : RoundOk P K W0 N0 G rec) {lim : Nat} {o : Oper} {t : List Value} {tr : Array Value} {σ σ' : AS} {v : Value}
    (hr : operB P E rec lim o t σ = some (v, σ')) (hlo : ∀ x i, o.op = .extract x i → asL (ev t x) = none ∧ asP (ev t x) = none) (hB : opB G o = true) {β : Inj} {w : World} {τ : AS} (hw : σ.Wf) (hl : σ.Like τ) (hR : R K W0 N0 β τ w) (hf : Fresh β σ σ') (hG : GlobOk G β) (hρ0 : ∀ x ∈ o.op.operands, vRel β (ev t x) (evA tr x)) :
    Lands P (execOp (evA tr) o) w (Post K W0 N0 β σ σ' τ v) := by
  obtain ⟨dst, op, type, pos, after, guard⟩ := o
  simp only [opB, Bool.and_eq_true, List.all_eq_true] at hB
  have hρ : ∀ x ∈ op.operands, vRel β (ev t x) (evA tr x) := hρ0
  clear hρ0
  have opt : ∀ (x : Option Operand), (∀ y, x = some y → y ∈ op.operands) → ovRel β (x.map (ev t)) (x.map (evA tr)) := fun x h => ovRel_map fun y hy => hρ y (h y hy)
  have hgen : ∀ (hg : generic P op = true) (hnf : ∀ fn f c, op = .makeFunc fn f c → ∀ l, fn ≠ .yield l), nextAny (runA P lim (execOp (ev t) ⟨dst, op, type, pos, after, guard⟩) σ) = some (v, σ') → Lands P (execOp (evA tr) ⟨dst, op, type, pos, after, guard⟩) w (Post K W0 N0 β σ σ' τ v) := by
    intro hg hnf hh
    have hS := sim_execOp (P := P) (K := K) (W0 := W0) (N0 := N0) (o := ⟨dst, op, type, pos, after, guard⟩) hZ hρ hnf hlo hg
    unfold nextAny at hh
    split at hh
    · rename_i h1
      cases hh
      exact (nLands hS hw hl hR h1 hf).1 _ rfl
    · rename_i h1
      cases hh
      exact (nLands hS hw hl hR h1 hf).2 rfl
    · cases hh
  have gen : ∀ (hnf : ∀ fn f c, op = .makeFunc fn f c → ∀ l, fn ≠ .yield l), (bif generic P op then
      nextAny (runA P lim (execOp (ev t) ⟨dst, op, type, pos, after, guard⟩) σ) else none) = some (v, σ') → Lands P (execOp (evA tr) ⟨dst, op, type, pos, after, guard⟩) w (Post K W0 N0 β σ σ' τ v) := by
    intro hnf hh
    cases hg : generic P op with
    | false => rw [hg] at hh; cases hh
    | true => rw [hg, cond_true] at hh; exact hgen hg hnf hh
  cases op
  case slice st x lo hi mx =>
    simp only [operB] at hr
    exact (sim2_sliceX (hρ x (by simp [Op.operands])) (opt lo (by intro y hy; simp [Op.operands, hy])) (opt hi (by intro y hy; simp [Op.operands, hy])) (opt mx (by intro y hy; simp [Op.operands, hy])) lim).lands good_sliceX hw hl hR hr hf
  case convert src dst' x =>
    simp only [operB] at hr
    exact (sim2_convAll (lim := lim) (hρ x (by simp [Op.operands]))).lands good_conv hw hl hR hr hf
  case unOp op' t' x =>
    simp only [operB] at hr
    cases hu : unOkA (ev t x) with
    | false => rw [hu] at hr; cases hr
    | true =>
      rw [hu, cond_true] at hr
      exact ((sim_unary op' (hρ x (by simp [Op.operands])) hu).two lim).lands (good_runA _) hw hl hR hr hf
  case nilCheck x =>
    simp only [operB] at hr
    cases hu : nilOkA (ev t x) with
    | false => rw [hu] at hr; cases hr
    | true =>
      rw [hu, cond_true, Option.some.injEq, Prod.mk.injEq] at hr
      obtain ⟨rfl, rfl⟩ := hr
      have hx := hρ x (by simp [Op.operands])
      have hv : (execOp (evA tr) ⟨dst, .nilCheck x, type, pos, after, guard⟩).run P w = .ok (.value (evA tr x)) w := by
        simp only [execOp]
        generalize ev t x = a at hx hu
        generalize evA tr x = a' at hx
        cases hx <;> first | rfl | (simp only [nilOkA] at hu; cases hu; done) | skip
        case func fn fn' f f' c c' h _ _ _ _ =>
          cases fn <;> first | (simp only [nilOkA] at hu; cases hu; done) | skip
          · have h : fn' = _ := h
            subst h; rfl
          · obtain ⟨e, _, _, rfl⟩ := h; rfl
      exact .value hv ⟨β, τ, .refl _ _, .refl hl, hR, hx⟩
  case sliceToArrayPointer d x =>
    simp only [operB] at hr
    cases hu : arrOkA (ev t x) with
    | false => rw [hu] at hr; cases hr
    | true =>
      rw [hu, cond_true] at hr
      exact ((sim_arrayAt (hρ x (by simp [Op.operands])) hu d).two lim).lands (good_runA _) hw hl hR hr hf
  case binOp bop bt x y g =>
    simp only [operB] at hr
    cases hu : binOkA P bop bt (isC x || isC y) (ev t x) (ev t y) with
    | false => rw [hu] at hr; cases hr
    | true =>
      rw [hu, cond_true] at hr
      have hx := hρ x (by simp [Op.operands])
      have hy := hρ y (by simp [Op.operands])
      exact eqGuard_lands hx hy hu (((sim_binOp hx hy hu).two lim).lands (good_runA _) hw hl hR hr hf)
  case call c =>
    obtain ⟨callee, args, argTypes⟩ := c
    have hargs : lRel β (args.toList.map (ev t)) (args.map (evA tr)).toList := by
      simp only [Array.toList_map]
      exact lRel.of_get (by simp) fun i hi hi' => by
        simp only [List.getElem_map]
        exact hρ _ (by simp [Op.operands, Call.operands])
    cases callee with
    | invoke => simp only [operB] at hr; cases hr
    | value f =>
      simp only [operB] at hr
      exact apply_lands hE hgr hc hrd hr hw hl hR hf hG (hρ f (by simp [Op.operands, Call.operands])) hargs
    | builtin b =>
      have hbi : tame P argTypes b = true → (args.toList.map (ev t)).head?.all unOkA = true → nextVal (runA P lim (builtin b argTypes type (args.map isC) (args.map (ev t))) σ) = some (v, σ') → Lands P (execOp (evA tr) ⟨dst, .call ⟨.builtin b, args, argTypes⟩, type, pos, after, guard⟩) w (Post K W0 N0 β σ σ' τ v) := by
        intro hta hh hrun
        have hS := sim_builtin (P := P) (K := K) (W0 := W0) (N0 := N0) hZ (b := b) (argTypes := argTypes) (type := type) (consts := args.map isC)
          (args := args.map (ev t)) (args' := args.map (evA tr)) (arrRel_iff.2 (by simpa using hargs)) hta (fun u hu _ => by
            simp only [Array.toList_map] at hu
            rw [hu] at hh; exact hh)
        have hlb : ∀ u, Lands P (builtin b argTypes type (args.map isC) (args.map (evA tr))) w (Post K W0 N0 β σ σ' τ u) → Lands P (execOp (evA tr) ⟨dst, .call ⟨.builtin b, args, argTypes⟩, type, pos, after, guard⟩) w (Post K W0 N0 β σ σ' τ u) := by
          intro u hu
          have e : args.map isC = args.map (fun | .const _ => true | _ => false) := congrArg (args.map ·) (funext fun x => by cases x <;> rfl)
          rw [e] at hu
          exact hu
        unfold nextVal at hrun
        split at hrun
        · rename_i h1
          cases hrun
          exact hlb _ ((nLands hS hw hl hR h1 hf).1 _ rfl)
        · cases hrun
      have hb2 : (bif tame P argTypes b && (args.toList.map (ev t)).head?.all unOkA then nextVal (runA P lim (builtin b argTypes type (args.map isC) (args.map (ev t))) σ) else none) = some (v, σ') → Lands P (execOp (evA tr) ⟨dst, .call ⟨.builtin b, args, argTypes⟩, type, pos, after, guard⟩) w (Post K W0 N0 β σ σ' τ v) := by
        intro hh
        cases hcd : (tame P argTypes b && (args.toList.map (ev t)).head?.all unOkA) with
        | false => rw [hcd] at hh; cases hh
        | true =>
          rw [hcd, cond_true] at hh
          simp only [Bool.and_eq_true] at hcd
          exact hbi hcd.1 hcd.2 hh
      cases b
      case append =>
        simp only [operB] at hr
        exact (sim2_append (lim := lim) hZ hargs).lands good_append hw hl hR hr hf
      case cap =>
        simp only [operB] at hr
        exact (sim2_cap (_lim := lim) hargs).lands (lim := lim) good_cap hw hl hR hr hf
      case unsafeSliceData =>
        simp only [operB] at hr
        exact (sim2_data (argTypes := argTypes) hargs).lands (lim := lim) good_data hw hl hR hr hf
      case unsafeString =>
        simp only [operB] at hr
        exact (sim2_ustr (lim := lim) hargs).lands good_ustr hw hl hR hr hf
      all_goals exact hb2 (by simpa only [operB] using hr)
  case makeFunc fn f c =>
    refine gen (fun fn' f' c' h l hl2 => ?_) (by simpa only [operB] using hr)
    cases h
    subst hl2
    exact Bool.false_ne_true hB.2
  case makeSlice st l c =>
    rw [operB_makeSlice rfl] at hr
    exact hgen rfl (fun fn f c h => by cases h) hr
  all_goals exact gen (fun fn f c h => by cases h) (by simpa only [operB] using hr)

theorem lop_lands (hZ : ZeroOk P) {lim : Nat} {o : Oper} {t : List Value} {tr : Array Value} {σ σ' : AS} {v : Value}
    (hr : lop P E lim o t σ = some (some (v, σ'))) {β : Inj} {w : World} {τ : AS} (hw : σ.Wf) (hl : σ.Like τ) (hR : R K W0 N0 β τ w) (hf : Fresh β σ σ') (hρ0 : ∀ x ∈ o.op.operands, vRel β (ev t x) (evA tr x)) :
    Lands P (execOp (evA tr) o) w (Post K W0 N0 β σ σ' τ v) := by
  have hshape := lop_shape (P := P) (E := E) (lim := lim) (o := o) (t := t)
  obtain ⟨dst, op, type, pos, after, guard⟩ := o
  have hρ : ∀ x ∈ op.operands, vRel β (ev t x) (evA tr x) := hρ0
  clear hρ0
  have opt : ∀ (x : Option Operand), (∀ y, x = some y → y ∈ op.operands) → ovRel β (x.map (ev t)) (x.map (evA tr)) := fun x h => ovRel_map fun y hy => hρ y (h y hy)
  have val : ∀ {x : Option Value} {s' : Sem Value}, Sim2 P K W0 N0 β (fun σ => x.map fun v => (v, σ)) s' → x.map (fun v => (v, σ)) = some (v, σ') → Lands P (do pure (Next.value (← s'))) w (Post K W0 N0 β σ σ' τ v) :=
    fun h hh => h.lands (lim := lim) (good_val _) hw hl hR hh hf
  unfold lop at hr
  cases op <;> dsimp only at hr <;> first | (cases hr; done) | skip
  case indexAddr xt x i =>
    cases h1 : asL (ev t x) with
    | some q =>
      obtain ⟨c, n, e, g⟩ := q
      rw [h1] at hr
      simp only [Option.some.injEq] at hr
      exact val (sim2_idxL (hρ x (by simp [Op.operands])) (hρ i (by simp [Op.operands])) h1) hr
    | none =>
      rw [h1] at hr
      cases h2 : asP (ev t x) with
      | none => rw [h2] at hr; cases hr
      | some q =>
        obtain ⟨c, k⟩ := q
        rw [h2] at hr
        simp only [Option.some.injEq] at hr
        exact val (sim2_idxP (hρ x (by simp [Op.operands])) (hρ i (by simp [Op.operands])) h2) hr
  case load ty x =>
    cases h2 : asP (ev t x) with
    | none => rw [h2] at hr; cases hr
    | some q =>
      obtain ⟨c, k⟩ := q
      rw [h2] at hr
      simp only [Option.map_some, Option.some.injEq] at hr
      exact val (sim2_loadL (hρ x (by simp [Op.operands])) h2) hr
  case fieldAddr s x f =>
    cases h2 : asP (ev t x) with
    | none => rw [h2] at hr; cases hr
    | some q =>
      obtain ⟨c, k⟩ := q
      rw [h2] at hr
      simp only [Option.map_some, Option.some.injEq] at hr
      exact val (sim2_fieldL (hρ x (by simp [Op.operands])) h2) hr
  case nilCheck x =>
    cases h2 : asP (ev t x) with
    | none => rw [h2] at hr; cases hr
    | some q =>
      obtain ⟨c, k⟩ := q
      rw [h2] at hr
      simp only [Option.map_some, Option.some.injEq, Prod.mk.injEq] at hr
      obtain ⟨rfl, rfl⟩ := hr
      have hx := hρ x (by simp [Op.operands])
      obtain ⟨cs', b, o, he, _⟩ := place_inv hx h2
      have hv : (execOp (evA tr) ⟨dst, .nilCheck x, type, pos, after, guard⟩).run P w = .ok (.value (evA tr x)) w := by
        simp only [execOp]
        rw [he]; rfl
      exact .value hv ⟨β, τ, .refl _ _, .refl hl, hR, hx⟩
  case extract x i =>
    cases hb : ((asP (ev t x)).isSome || (asL (ev t x)).isSome) with
    | false => rw [hb] at hr; cases hr
    | true => rw [hb] at hr; cases hr
  case sliceToArrayPointer d x =>
    cases h1 : asL (ev t x) with
    | none => rw [h1] at hr; cases hr
    | some q =>
      obtain ⟨c, n, e, g⟩ := q
      rw [h1] at hr
      simp only [Option.map_some, Option.some.injEq] at hr
      exact val (sim2_arrL (hρ x (by simp [Op.operands])) h1) hr
  case slice st x lo hi mx =>
    have o1 := opt lo (by intro y hy; simp [Op.operands, hy])
    have o2 := opt hi (by intro y hy; simp [Op.operands, hy])
    have o3 := opt mx (by intro y hy; simp [Op.operands, hy])
    cases h1 : asL (ev t x) with
    | some q =>
      obtain ⟨c, n, e, g⟩ := q
      rw [h1] at hr
      simp only [Option.some.injEq] at hr
      exact val (sim2_cutL (hρ x (by simp [Op.operands])) o1 o2 o3 h1) hr
    | none =>
      rw [h1] at hr
      cases h2 : asP (ev t x) with
      | none => rw [h2] at hr; cases hr
      | some q =>
        obtain ⟨c, k⟩ := q
        rw [h2] at hr
        simp only [Option.map_some, Option.some.injEq] at hr
        exact val (sim2_cutP (hρ x (by simp [Op.operands])) o1 o2 o3 h2) hr
  case convert src dst' x =>
    cases h1 : asL (ev t x) with
    | none => rw [h1] at hr; cases hr
    | some q =>
      obtain ⟨c, n, e, g⟩ := q
      rw [h1] at hr
      simp only [Option.map_some, Option.some.injEq] at hr
      cases hst : sameT P src dst' with
      | true =>
        rw [hst, cond_true] at hr
        exact (sim2_same (hρ x (by simp [Op.operands])) h1 hst).lands (lim := lim) good_whole hw hl hR hr hf
      | false =>
        rw [hst, cond_false] at hr
        exact val (sim2_strL (hρ x (by simp [Op.operands])) h1) hr
  case binOp bop bt x y g =>
    have hx := hρ x (by simp [Op.operands])
    have hy := hρ y (by simp [Op.operands])
    have done : ∀ {a a' : Option Addr} {l c l' c' : Nat}, evA tr x = .slice a l c → evA tr y = .slice a' l' c' → ((a.isSome ∧ a' = none) ∨ (a = none ∧ a'.isSome)) → (nilL P bop bt).map (fun v => (v, σ)) = some (v, σ') →
        Lands P (execOp (evA tr) ⟨dst, .binOp bop bt x y g, type, pos, after, guard⟩) w (Post K W0 N0 β σ σ' τ v) := by
      intro a a' l c l' c' e1 e2 e3 hh
      cases hn : nilL P bop bt with
      | none => rw [hn] at hh; cases hh
      | some u =>
        rw [hn] at hh
        simp only [Option.map_some, Option.some.injEq, Prod.mk.injEq] at hh
        obtain ⟨rfl, rfl⟩ := hh
        have hrun := run_binNil (P := P) (x := x) (y := y) (l := l) (c := c) (l' := l') (c' := c') (w := w) hn e3
        have hu : vRel β u u := by
          unfold nilL at hn
          split at hn <;> first | (cases hn; exact .bool _) | cases hn
        refine .value (v := u) ?_ ⟨β, τ, .refl _ _, .refl hl, hR, hu⟩
        show (do pure (Next.value (← (do eqGuard bop bt x y (evA tr x) (evA tr y); binOp bop bt (evA tr x) (evA tr y)))) : Sem Next).run P w = _
        rw [e1, e2, run_bind', hrun]; rfl
    cases h1 : asL (ev t x) with
    | some q =>
      obtain ⟨c, n, e, g0⟩ := q
      obtain ⟨cs', b, o, c', hL⟩ := list_inv hx h1
      rw [h1] at hr
      generalize hyv : ev t y = yv at hr hy
      cases yv <;> first | (cases hr; done) | skip
      rename_i ya yl yc
      cases ya with
      | some _ => cases hr
      | none =>
        simp only [Option.some.injEq] at hr
        have e2 : evA tr y = .slice none yl yc := by
          generalize evA tr y = yv' at hy
          cases hy; rfl
        exact done hL.eq e2 (.inl ⟨rfl, rfl⟩) hr
    | none =>
      rw [h1] at hr
      dsimp only at hr
      cases h2 : asL (ev t y) with
      | none => rw [h2] at hr; cases hr
      | some q =>
        obtain ⟨c, n, e, g0⟩ := q
        obtain ⟨cs', b, o, c', hL⟩ := list_inv hy h2
        rw [h2] at hr
        generalize hxv : ev t x = xv at hr hx
        cases xv <;> first | (cases hr; done) | skip
        rename_i xa xl xc
        cases xa with
        | some _ => cases hr
        | none =>
          simp only [Option.some.injEq] at hr
          have e1 : evA tr x = .slice none xl xc := by
            generalize evA tr x = xv' at hx
            cases hx; rfl
          exact done e1 hL.eq (.inr ⟨rfl, rfl⟩) hr
  case buildSlice ty n ps =>
    cases hrw : E.rows ⟨dst, .buildSlice ty n ps, type, pos, after, guard⟩ with
    | true => rw [hrw] at hr; cases hr
    | false =>
      rw [hrw] at hr
      simp only [cond_false, Option.some.injEq] at hr
      refine (sim2_litL hZ ?_).lands (lim := lim) (good_val _) hw hl hR hr hf
      simp only [Array.toList_map]
      exact psRel_map fun x hx => hρ x (by simpa [Op.operands] using hx)
  case call c =>
    obtain ⟨callee, args, argTypes⟩ := c
    have hargs : lRel β (args.toList.map (ev t)) (args.map (evA tr)).toList := by
      simp only [Array.toList_map]
      exact lRel.of_get (by simp) fun i hi hi' => by
        simp only [List.getElem_map]
        exact hρ _ (by simp [Op.operands, Call.operands])
    cases callee with
    | invoke => cases hr
    | value f => cases hr
    | builtin b =>
      cases b <;> dsimp only at hr <;> first | (cases hr; done) | skip
      case append =>
        rcases hshape with hn | ⟨f, h1, h2⟩
        · have := hn σ
          unfold lop at this
          dsimp only at this
          rw [this] at hr; cases hr
        · have h1' : ∀ σ, appendL P (E.rows ⟨dst, .call ⟨.builtin .append, args, argTypes⟩, type, pos, after, guard⟩) lim argTypes (args.toList.map (ev t)) σ = some (f σ) := fun σ => h1 σ
          rw [h1' σ] at hr
          simp only [Option.some.injEq] at hr
          exact (sim2_appendL hZ hargs h1').lands h2 hw hl hR hr hf
      case copy =>
        rcases hshape with hn | ⟨f, h1, h2⟩
        · have := hn σ
          unfold lop at this
          dsimp only at this
          rw [this] at hr; cases hr
        · have h1' : ∀ σ, copyL P lim argTypes (args.toList.map (ev t)) σ = some (f σ) := fun σ => h1 σ
          rw [h1' σ] at hr
          simp only [Option.some.injEq] at hr
          have hS := (sim2_copyL (ty := type) hargs h1').lands h2 hw hl hR hr hf
          exact hS
      case len =>
        split at hr
        case h_2 => cases hr
        rename_i x el hargs0 hu
        cases h1 : asL x with
        | none => rw [h1] at hr; cases hr
        | some q =>
          obtain ⟨c, n, e, g⟩ := q
          rw [h1] at hr
          simp only [Option.map_some, Option.some.injEq, Prod.mk.injEq] at hr
          obtain ⟨rfl, rfl⟩ := hr
          rw [hargs0] at hargs
          have hlen : (args.map (evA tr)).toList.length = 1 := by rw [← hargs.length]; rfl
          obtain ⟨x', hx'⟩ : ∃ x', args.map (evA tr) = #[x'] := by
            generalize args.map (evA tr) = q at hlen
            obtain ⟨l⟩ := q
            match l, hlen with
            | [a], _ => exact ⟨a, rfl⟩
          rw [hx'] at hargs
          obtain ⟨cs', b, o, c', hL⟩ := list_inv hargs.1 h1
          cases h0 : argTypes[0]? with
          | none => rw [h0] at hu; cases hu
          | some ty0 =>
          rw [h0] at hu
          simp only [Option.bind_some] at hu
          have hrun := run_lenL (P := P) (ty := type) (b := b) (o := o) (n := n) (c' := c') (w := w) h0 hu
          have : (execOp (evA tr) ⟨dst, .call ⟨.builtin .len, args, argTypes⟩, type, pos, after, guard⟩) = (do pure (Next.value (← Builtin.len_ argTypes type (args.map (evA tr)))) : Sem Next) := rfl
          rw [this, hx', hL.eq]
          exact .value (by rw [run_bind', hrun]; rfl) ⟨β, τ, .refl _ _, .refl hl, hR, .int _ _⟩

theorem freeze_post {σ σ1 σ2 τ : AS} {β : Inj} {known : Bool} {lim : Nat} {v u v' : Value} {w' : World} (h : Post K W0 N0 β σ σ1 τ v v' w') (hw : σ1.Wf)
    (hk : known = true → ∀ a l c cs lo, v = .slice (some a) l c → σ1.get a.block = some (.cells cs true lo none) → Cells cs ∧ cs.length = l ∧ ∃ T, lo = (some 1, some T)) (hf : freezeA P known lim v σ1 = some (u, σ2)) (hn : σ1.next ≤ σ2.next) : Post K W0 N0 β σ σ2 τ u v' w' := by
  obtain ⟨β', τ', x, l, r, hv⟩ := h
  obtain ⟨k2, l2⟩ := good_freeze (P := P) σ1 u σ2 hf hw
  obtain ⟨τ2, e3, e4⟩ := l2 τ' l.like
  obtain ⟨β2, hm, hle, R2, hv2⟩ := freeze_R r hv (fun hkn a ll c cs lo hva hg => by
    subst hva
    cases hg1 : σ1.get a.block with
    | some y =>
      rw [get_like hw l.like hg1] at hg
      cases hg
      exact hk hkn _ _ _ _ _ rfl hg1
    | none =>
      -- freezing looks there
      unfold freezeA at hf
      dsimp only at hf
      cases hb : (Nat.beq a.off 0 && a.spot.isNone) with
      | false => rw [hb] at hf; cases hf
      | true =>
        rw [hb, cond_true] at hf
        unfold freezeR at hf
        rw [hg1] at hf
        cases hf) e3
  refine ⟨β2, τ2, ⟨x.1.trans hle, fun i e he => ?_⟩, l.trans e4 hn, R2, hv2⟩
  rw [hm] at he
  rcases x.2 i e he with h | h
  · exact .inl h
  · exact .inr ⟨h.1, by omega⟩

theorem cells_bytes (b : ByteArray) : Cells (b.data.toList.map fun x => Value.int .u8 x.toNat) := fun v hv => by
  obtain ⟨x, _, rfl⟩ := List.mem_map.1 hv
  exact ⟨rfl, .int _ _⟩

theorem cells_runes (s : ByteArray) : ∀ (n pos : Nat) (acc : Array Value), Cells acc.toList → Cells (Conv.runesFrom s n pos acc).toList := by
  intro n
  induction n with
  | zero => intro pos acc h; exact h
  | succ n ih =>
    intro pos acc h
    unfold Conv.runesFrom
    split
    · refine ih _ _ ?_
      rw [Array.toList_push]
      exact h.append fun v hv => by
        rw [List.mem_singleton] at hv
        subst hv
        exact ⟨rfl, .int _ _⟩
    · exact h

/-- What a string becomes is plain. -/
theorem conv_known {lim : Nat} {o : Oper} {t : List Value} {σ σ1 : AS} {v : Value} (h : operB P E rec lim o t σ = some (v, σ1)) (hf : freezes P E o = true) (hc : isConv o = true) :
    ∀ a l c cs lo, v = .slice (some a) l c → σ1.get a.block = some (.cells cs true lo none) → Cells cs ∧ cs.length = l ∧ ∃ T, lo = (some 1, some T) := by
  obtain ⟨dst, op, type, pos, after, guard⟩ := o
  cases op <;> first | (cases hc; done) | skip
  rename_i src dst' x
  simp only [operB] at h
  unfold freezes at hf
  dsimp only at hf
  split at hf
  case h_2 => cases hf
  rename_i el h1 h2
  intro a l c cs lo hv hg
  subst hv
  unfold convA at h
  split at h
  · rename_i s hs
    rw [h1, h2] at h
    dsimp only at h
    split at h
    · cases h
      rw [AS.get_push, if_pos rfl] at hg
      cases hg
      exact ⟨cells_bytes s, by simp, _, rfl⟩
    · cases h
      rw [AS.get_push, if_pos rfl] at hg
      cases hg
      exact ⟨cells_runes s _ _ _ Cells.nil, rfl, _, rfl⟩
    · cases h
  · rename_i a0 _
    unfold ptrConv at h
    split at h
    · rename_i y _
      cases hb : (a0.spot.isNone && ptrOk P src dst' a0.off y) with
      | false => rw [hb] at h; cases h
      | true => rw [hb] at h; cases h
    · cases h
  · rename_i a0 l0 c0 _
    cases hst : sameT P src dst' with
    | true =>
      exfalso
      unfold sameT at hst
      rw [Bool.and_eq_true] at hst
      have := Nat.eq_of_beq_eq_true hst.1
      subst this
      rw [h1] at h2; cases h2
    | false =>
      rw [hst, cond_false] at h
      have hb : convOk P src dst' (.slice (some a0) l0 c0) = false := by
        unfold convOk
        dsimp only
        rw [h1]
      rw [hb] at h; cases h
  · rename_i hns hnp _
    cases hb : convOk P src dst' (ev t x) with
    | false => rw [hb] at h; cases h
    | true =>
      exfalso
      unfold convOk at hb
      split at hb
      · rw [h2] at hb; cases hb
      · rw [h2] at hb; cases hb
      · rw [h1] at hb; cases hb
      · cases hb

theorem oper_lands (hZ : ZeroOk P) (hEg : OvGood E) (hE : OvOk P K W0 N0 G E) (hgr : RecGood rec) (hc : CallOk P K W0 N0 G rec) (hrd : RoundOk P K W0 N0 G rec) {lim : Nat} {o : Oper} {t : List Value} {tr : Array Value} {σ σ' : AS} {v : Value}
    (hr : operA P E rec lim o t σ = some (v, σ')) (hB : opB G o = true) {β : Inj} {w : World} {τ : AS} (hw : σ.Wf) (hl : σ.Like τ) (hR : R K W0 N0 β τ w) (hf : Fresh β σ σ') (hG : GlobOk G β) (hρ0 : ∀ x ∈ o.op.operands, vRel β (ev t x) (evA tr x)) :
    Lands P (execOp (evA tr) o) w (Post K W0 N0 β σ σ' τ v) := by
  unfold operA at hr
  cases hlo : lop P E lim o t σ with
  | some r =>
    rw [hlo] at hr
    dsimp only at hr
    subst hr
    exact lop_lands hZ hlo hw hl hR hf hρ0
  | none =>
    rw [hlo] at hr
    dsimp only at hr
    have hx : ∀ x i, o.op = .extract x i → asL (ev t x) = none ∧ asP (ev t x) = none := by
      intro x i ho
      unfold lop at hlo
      rw [ho] at hlo
      dsimp only at hlo
      cases h1 : asP (ev t x) with
      | some _ => rw [h1] at hlo; cases hlo
      | none => cases h2 : asL (ev t x) with
        | some _ => rw [h1, h2] at hlo; cases hlo
        | none => exact ⟨rfl, rfl⟩
    cases hop : operB P E rec lim o t σ with
    | none => rw [hop] at hr; cases hr
    | some q =>
      obtain ⟨v1, σ1⟩ := q
      rw [hop] at hr
      dsimp only at hr
      have kB := (good_operB hEg hgr (P := P) (o := o) (t := t) σ v1 σ1 hop hw).1
      cases hfz : freezes P E o with
      | false =>
        rw [hfz, cond_false] at hr
        cases hr
        exact operB_lands hZ hE hgr hc hrd hop hx hB hw hl hR hf hG hρ0
      | true =>
        rw [hfz, cond_true] at hr
        have kF := (good_freeze (P := P) σ1 v σ' hr (kB.wf hw)).1
        exact (operB_lands hZ hE hgr hc hrd hop hx hB hw hl hR (hf.left kF.next) hG hρ0).mono fun v' w' h => freeze_post h (kB.wf hw) (conv_known hop hfz) hr kF.next

end Go.Va

/-
  SIMULATION: a region whose operations run in the order of the text.
-/
namespace Go.Va
open Go.RowKit
variable {P : Program} {K : FuncId → Code → Prop} {W0 : World} {N0 G : Nat} {E : Env} {rec : Rec} {ops : Array Oper}

/-- Two look-ups that go together. -/
def lkRel (β : Inj) (a b : Option Value) : Prop := (a = none ∧ b = none) ∨ ∃ v v', a = some v ∧ b = some v' ∧ vRel β v v'

theorem lkRel.mono {β β' : Inj} (hb : β.le β') {a b : Option Value} (h : lkRel β a b) : lkRel β' a b := by
  rcases h with h | ⟨v, v', h1, h2, h3⟩
  · exact .inl h
  · exact .inr ⟨v, v', h1, h2, h3.mono hb⟩

theorem lRel.look {β : Inj} {t : List Value} {tr : Array Value} (ht : lRel β t tr.toList) (d : Nat) : lkRel β t[d]? tr[d]? := by
  cases h : t[d]? with
  | none => have h' := ht.none d h; rw [Array.getElem?_toList] at h'; exact .inl ⟨rfl, h'⟩
  | some v => obtain ⟨v', h', hv⟩ := ht.getElem? d h; rw [Array.getElem?_toList] at h'; exact .inr ⟨v, v', rfl, h', hv⟩

theorem ev_rel' {β : Inj} (hG : GlobOk G β) {t : List Value} {tr : Array Value} {x : Operand} (hx : okO G x = true) (hl : ∀ d, x = .tmp d → lkRel β t[d]? tr[d]?) : vRel β (ev t x) (evA tr x) := by
  cases x with
  | tmp i =>
    simp only [ev, evA]
    rw [List.getD_eq_getElem?_getD, Array.getD_eq_getD_getElem?]
    rcases hl i rfl with ⟨h1, h2⟩ | ⟨v, v', h1, h2, h3⟩
    · rw [h1, h2]; exact rel_undef
    · rw [h1, h2]; exact h3
  | const v => exact plain_rel 100 v hx
  | global g =>
    simp only [okO] at hx
    exact .ptr ⟨rfl, _, hG g (by rw [Nat.blt_eq] at hx; exact hx), by simp⟩
  | func f => exact .func rfl rfl (fun i h => by simp at h) rfl (fun i h => by simp at h)

/-- What an operation sees is related. -/
def Sees (ops : Array Oper) (β : Inj) (o : Oper) (t : List Value) (tr : Array Value) : Prop := ∀ d ∈ o.looksAt ops, lkRel β t[d]? tr[d]?

theorem Sees.operands {β : Inj} {o : Oper} {t : List Value} {tr : Array Value} (h : Sees ops β o t tr) (hG : GlobOk G β) (hB : opB G o = true) : ∀ x ∈ o.op.operands, vRel β (ev t x) (evA tr x) := by
  intro x hx
  simp only [opB, Bool.and_eq_true, List.all_eq_true] at hB
  refine ev_rel' hG (hB.1 x (by simpa using hx)) fun d hd => h d ?_
  subst hd
  unfold Oper.looksAt
  exact List.mem_append_left _ (List.mem_filterMap.2 ⟨.tmp d, by simpa using hx, rfl⟩)

theorem Sees.wanted {β : Inj} {o : Oper} {t : List Value} {tr : Array Value} (h : Sees ops β o t tr) : Region.wanted o (yielded ops tr) = Region.wanted o (yieldedL ops t) := by
  unfold Region.wanted
  cases hg : o.guard with
  | none => rfl
  | some gb =>
    obtain ⟨g, b⟩ := gb
    have : yielded ops tr g = yieldedL ops t g := by
      unfold yielded yieldedL
      cases hd : (ops[g]?).bind (·.dst) with
      | none => rfl
      | some d =>
        have hl := h d (by
          unfold Oper.looksAt
          refine List.mem_append_right _ ?_
          rw [hg]
          simp [hd])
        simp only [Option.bind_some]
        rcases hl with ⟨h1, h2⟩ | ⟨v, v', h1, h2, h3⟩
        · rw [h1, h2]
        · rw [h1, h2]
          cases h3 <;> rfl
    simp only [this]

theorem opsA_cons {q : Bool} {lim : Nat} {o : Oper} {l : List Oper} {t : List Value} {σ : AS} : opsA P E rec ops q lim (o :: l) t σ = andThen (op1 P E rec ops q lim o t σ) fun v σ' => opsA P E rec ops q lim l (putT t o.dst v) σ' := by
  simp only [opsA, op1]
  cases Region.wanted o (yieldedL ops t) with
  | false => rfl
  | true =>
    simp only [cond_true]
    rcases operA P E rec (bif q then σ.next else lim) o t σ with _ | ⟨v, σ'⟩ <;> rfl

theorem quiet_op1 (hE : OvGood E) (hr : RecGood rec) {lim : Nat} {o : Oper} {t : List Value} {σ σ' : AS} {v : Value} (h : op1 P E rec ops true lim o t σ = some (v, σ')) (hw : σ.Wf) : Kept σ.next σ σ' := by
  unfold op1 at h
  cases hq : Region.wanted o (yieldedL ops t) with
  | false => rw [hq] at h; simp only [cond_false, Option.some.injEq, Prod.mk.injEq] at h; rw [← h.2]; exact .refl _ _
  | true => rw [hq] at h; exact ((good_oper hE hr) σ v σ' h hw).1

/-- What is given: of the program, of the replaced functions, of the deeper runs. -/
structure Given (P : Program) (K : FuncId → Code → Prop) (W0 : World) (N0 G : Nat) (E : Env) (rec : Rec) : Prop where
  zero : ZeroOk P
  mixed : P.follows .mixedOrders = true
  ovGood : OvGood E
  ov : OvOk P K W0 N0 G E
  good : RecGood rec
  call : CallOk P K W0 N0 G rec
  round : RoundOk P K W0 N0 G rec

theorem lRel_putT {β : Inj} {t : List Value} {tr : Array Value} (ht : lRel β t tr.toList) {v v' : Value} (hv : vRel β v v') (dst : Option Tmp) : lRel β (putT t dst v) (putA tr dst v').toList := by
  cases dst with
  | none => exact ht
  | some d =>
    simp only [putT, putA, Array.toList_setIfInBounds]
    exact ht.set hv d

theorem op_steps (H : Given P K W0 N0 G E rec) {q : Bool} {lim : Nat} {i : Nat} {o : Oper} {t : List Value} {tr : Array Value} {σ σ' τ : AS} {v : Value} (ho : ops[i]? = some o) (hr : op1 P E rec ops q lim o t σ = some (v, σ')) (hB : opB G o = true) {β : Inj} {w : World}
    (hw : σ.Wf) (hl : σ.Like τ) (hR : R K W0 N0 β τ w) (hf : Fresh β σ σ') (hG : GlobOk G β) (hs : Sees ops β o t tr) (b : Frame) (d : List Deferred) (rest : List Nat) (k : List Item) (cs : List Frame) :
    ∃ v' w', Post K W0 N0 β σ σ' τ v v' w' ∧ Steps P (lone (Fr b tr d (.inRegion ops (i :: rest) :: k)) cs w) (lone (Fr b (putA tr o.dst v') d (.inRegion ops rest :: k)) cs w') := by
  have hwt := hs.wanted
  unfold op1 at hr
  cases hq : Region.wanted o (yieldedL ops t) with
  | false =>
    rw [hq] at hr hwt
    simp only [cond_false, Option.some.injEq, Prod.mk.injEq] at hr
    obtain ⟨rfl, rfl⟩ := hr
    refine ⟨undef, w, ⟨β, τ, .refl _ _, .refl hl, hR, rel_undef⟩, .one ?_⟩
    have := st_unwanted (P := P) (b := b) (t := tr) (d := d) (k := k) (cs := cs) (w := w) (ops := ops) (i := i) (rest := rest) (by rw [ho]; simpa using hwt)
    rw [ho] at this
    exact this
  | true =>
    rw [hq, cond_true] at hr
    rw [hq] at hwt
    have hnd : ∀ c, o.op ≠ .defer c := by
      intro c hc
      simp only [operA, lop, operB, hc, generic, cond_false] at hr
      cases hr
    have hL := oper_lands H.zero H.ovGood H.ov H.good H.call H.round hr hB hw hl hR hf hG (hs.operands hG hB)
    have hg : stepG P true { frame := Fr b tr d (.inRegion ops (i :: rest) :: k), callers := cs, status := .running, dying := none } w =
        stepG.apply P true (Fr b tr d (.inRegion ops (i :: rest) :: k)) cs none (execOp (evA tr) o) w := by
      have he := Fr_eval b tr d (.inRegion ops (i :: rest) :: k)
      simp only [Fr] at he
      have h1 : ∀ r : Option Nat, (match r, o.op with
          | some l, .defer c => stepG.apply P true (Fr b tr d (.inRegion ops (i :: rest) :: k)) cs none (do Instr.deferInRound l (← resolve (evA tr) c o.type); pure .skip) w
          | _, _ => stepG.apply P true (Fr b tr d (.inRegion ops (i :: rest) :: k)) cs none (execOp (evA tr) o) w) = stepG.apply P true (Fr b tr d (.inRegion ops (i :: rest) :: k)) cs none (execOp (evA tr) o) w := by
        intro r
        split
        · rename_i hh; exact absurd hh (hnd _)
        · rfl
      rw [← h1 b.roundOf]
      simp only [stepG, stepG.exec, stepG.oper, Frame.oper?, Fr, ho, Option.map_some, Option.getD_some, hwt, if_true, he]
      cases b.roundOf with
      | none => rfl
      | some l => cases o.op <;> rfl
    obtain ⟨v', w', hp, hst⟩ := hL.steps (P := P) (fr0 := Fr b tr d (.inRegion ops (i :: rest) :: k)) (fr := Fr b tr d (.inRegion ops (i :: rest) :: k)) (cs := cs) (w0 := w) trivial (by rw [hg])
    rw [Fr_finish, ho] at hst
    exact ⟨v', w', hp, hst⟩

/-- Operations in the order of the text. -/
theorem seq_steps (H : Given P K W0 N0 G E rec) {q : Bool} {lim : Nat} : ∀ (l : List Oper) (is : List Nat) (t : List Value) (tr : Array Value) (σ σ' τ : AS) (t1 : List Value), is.length = l.length → (∀ (n : Nat) (i : Nat) (o : Oper), is[n]? = some i → l[n]? = some o → ops[i]? = some o) →
    opsA P E rec ops q lim l t σ = some (t1, σ') → (∀ o ∈ l, opB G o = true) → ∀ (β : Inj) (w : World), σ.Wf → σ.Like τ → R K W0 N0 β τ w → Fresh β σ σ' → GlobOk G β → lRel β t tr.toList → ∀ (b : Frame) (d : List Deferred) (k : List Item) (cs : List Frame),
    ∃ w' β' τ' tr', Ext β β' σ σ' ∧ σ'.Led τ τ' ∧ R K W0 N0 β' τ' w' ∧ lRel β' t1 tr'.toList ∧ Steps P (lone (Fr b tr d (.inRegion ops is :: k)) cs w) (lone (Fr b tr' d (.inRegion ops [] :: k)) cs w')
  | [], is, t, tr, σ, σ', τ, t1, hlen, _, hr, _, β, w, hw, hl, hR, _, _, ht, b, d, k, cs => by
    cases is with
    | cons _ _ => simp at hlen
    | nil =>
      simp only [opsA, Option.some.injEq, Prod.mk.injEq] at hr
      obtain ⟨rfl, rfl⟩ := hr
      exact ⟨w, β, τ, tr, .refl _ _, .refl hl, hR, ht, .refl _ _⟩
  | o :: l, is, t, tr, σ, σ', τ, t1, hlen, his, hr, hB, β, w, hw, hl, hR, hf, hG, ht, b, d, k, cs => by
    cases is with
    | nil => simp at hlen
    | cons i is =>
      rw [opsA_cons] at hr
      cases h1 : op1 P E rec ops q lim o t σ with
      | none => rw [h1] at hr; cases hr
      | some r =>
        obtain ⟨v, σ1⟩ := r
        rw [h1] at hr
        have k1 := ((good_op1 H.ovGood H.good) σ v σ1 h1 hw).1
        have k2 := ((good_ops H.ovGood H.good l (putT t o.dst v)) σ1 t1 σ' hr (k1.wf hw)).1
        obtain ⟨v', w1, ⟨β1, τ1, x1, l1, R1, hv⟩, s1⟩ := op_steps H (his 0 i o rfl rfl) h1 (hB o (by simp)) hw hl hR (hf.left k2.next) hG (fun d _ => ht.look d) b d is k cs
        obtain ⟨w2, β2, τ2, tr2, x2, l2, R2, ht2, s2⟩ := seq_steps H l is (putT t o.dst v) (putA tr o.dst v') σ1 σ' τ1 t1 (by simpa using hlen) (fun n i' o' h h' => his (n + 1) i' o' (by simpa using h) (by simpa using h'))
          hr (fun o' ho' => hB o' (by simp [ho'])) β1 w1 (k1.wf hw) l1.like R1 (hf.right x1 k1.next) (hG.mono x1.1) (lRel_putT (ht.mono x1.1) hv o.dst) b d k cs
        exact ⟨w2, β2, τ2, tr2, x1.trans x2 k1.next k2.next, l1.trans l2 k2.next, R2, ht2, s1.trans s2⟩

end Go.Va

/-
  SIMULATION: a region that draws the order of its operations: first those that write nothing of what was there, in any order that their edges leave; then a tail in the order of the text.
-/
namespace Go.Va
open Go.RowKit
variable {P : Program} {K : FuncId → Code → Prop} {W0 : World} {N0 G : Nat} {E : Env} {rec : Rec} {ops : Array Oper}

def dstOf (ops : Array Oper) (k : Nat) : Option Tmp := (ops[k]?).bind (·.dst)

/-- The operation at a place of an order. -/
def ix (os : List Nat) (p : Nat) : Nat := os.getD p 0

/-- An order of the operations: no operation waits for one behind it. -/
def ordB (md : Region.Mode) (ops : Array Oper) (os : List Nat) : Bool :=
  Nat.beq os.length ops.size && os.all (fun i => Nat.blt i ops.size) &&
  ((List.range ops.size).all fun i => os.contains i) &&
  ((List.range ops.size).all fun p => !(os.take p).contains (ix os p)) &&
  ((List.range ops.size).all fun p => match ops[ix os p]? with
    | some o => o.after.all fun e => !Region.binds md e || (os.take p).contains e.on
    | none => false)

/-- The places from a up to b are a group: apart from each other; whatever comes behind waits for them. -/
def groupB (md : Region.Mode) (ops : Array Oper) (os : List Nat) (a b : Nat) : Bool :=
  Nat.ble b ops.size &&
  ((List.range' a (b - a)).all fun k => match dstOf ops (ix os k) with
    | none => true
    | some d => (List.range' a (b - a)).all fun j => (Nat.beq j k || !(dstOf ops (ix os j) == some d)) && (match ops[ix os j]? with
      | some o => !((o.looksAt ops).contains d) || (Nat.blt k j && Region.waitsFor md ops (ix os j) (ix os k))
      | none => true)) &&
  (Nat.beq b ops.size || ((List.range' a (b - a)).all fun k => (List.range (b + 1)).any fun j => Nat.blt k j && Region.waitsFor md ops (ix os j) (ix os k))) &&
  ((List.range ops.size).all fun p => Nat.ble p b || ((List.range' b (p - b)).any fun s => Region.waitsFor md ops (ix os p) (ix os s)) || (Nat.beq b (a + 1) && Region.waitsFor md ops (ix os p) (ix os a)))

structure OrdOk (md : Region.Mode) (ops : Array Oper) (os : List Nat) : Prop where
  len : os.length = ops.size
  lt : ∀ p, p < ops.size → ix os p < ops.size
  surj : ∀ i, i < ops.size → ∃ p, p < ops.size ∧ i = ix os p
  inj : ∀ p q, p < ops.size → q < ops.size → ix os p = ix os q → p = q
  back : ∀ (p : Nat) (o : Oper), p < ops.size → ops[ix os p]? = some o → ∀ e ∈ o.after, Region.binds md e = true → ∃ q, q < p ∧ e.on = ix os q

structure GroupOk (md : Region.Mode) (ops : Array Oper) (os : List Nat) (a n : Nat) : Prop extends OrdOk md ops os where
  le : n ≤ ops.size
  apart : ∀ (k j : Nat) (d : Tmp), a ≤ k → k < n → a ≤ j → j < n → dstOf ops (ix os k) = some d → j ≠ k → dstOf ops (ix os j) ≠ some d
  looks : ∀ (k j : Nat) (d : Tmp) (o : Oper), a ≤ k → k < n → a ≤ j → j < n → dstOf ops (ix os k) = some d → ops[ix os j]? = some o → d ∈ o.looksAt ops → k < j ∧ Region.waitsFor md ops (ix os j) (ix os k) = true
  sink : n < ops.size → ∀ k, a ≤ k → k < n → ∃ j, k < j ∧ j ≤ n ∧ Region.waitsFor md ops (ix os j) (ix os k) = true
  chain : ∀ p, n < p → p < ops.size → (∃ s, n ≤ s ∧ s < p ∧ Region.waitsFor md ops (ix os p) (ix os s) = true) ∨ (n = a + 1 ∧ Region.waitsFor md ops (ix os p) (ix os a) = true)

theorem mem_take_ix {os : List Nat} {p x : Nat} (hp : p ≤ os.length) (h : x ∈ os.take p) : ∃ q, q < p ∧ x = ix os q := by
  obtain ⟨q, hq, hx⟩ := List.getElem_of_mem h
  have hq' : q < p := by rw [List.length_take] at hq; omega
  refine ⟨q, hq', ?_⟩
  rw [List.getElem_take] at hx
  unfold ix
  rw [List.getD_eq_getElem?_getD, List.getElem?_eq_getElem (by omega), hx]; rfl
theorem ix_mem_take {os : List Nat} {p q : Nat} (hp : p ≤ os.length) (hq : q < p) : ix os q ∈ os.take p := by
  unfold ix
  rw [List.getD_eq_getElem?_getD, List.getElem?_eq_getElem (by omega)]
  exact List.mem_take_iff_getElem.2 ⟨q, by omega, rfl⟩

theorem ordB_spec {md : Region.Mode} {os : List Nat} (h : ordB md ops os = true) : OrdOk md ops os := by
  simp only [ordB, Bool.and_eq_true, List.all_eq_true, List.mem_range] at h
  obtain ⟨⟨⟨⟨h0, h2⟩, hsj⟩, h3⟩, h4⟩ := h
  have hlen : os.length = ops.size := Nat.eq_of_beq_eq_true h0
  have hne : ∀ p q, q < p → p < ops.size → ix os p ≠ ix os q := by
    intro p q hqp hp heq
    have h7 := h3 p hp
    rw [heq] at h7
    have h8 : (os.take p).contains (ix os q) = true := List.contains_iff_mem.2 (ix_mem_take (by omega) hqp)
    rw [h8] at h7; cases h7
  refine ⟨hlen, fun p hp => ?_, fun i hi => ?_, fun p q hp hq heq => ?_, fun p o hp ho e he hb => ?_⟩
  · have : ix os p ∈ os := by
      have := ix_mem_take (os := os) (p := os.length) (q := p) (Nat.le_refl _) (by omega)
      rwa [List.take_length] at this
    have := h2 _ this
    rwa [Nat.blt_eq] at this
  · have := List.contains_iff_mem.1 (hsj i hi)
    rw [← List.take_length (l := os)] at this
    obtain ⟨q, hq, hx⟩ := mem_take_ix (Nat.le_refl _) this
    exact ⟨q, by omega, hx⟩
  · rcases Nat.lt_trichotomy p q with h | h | h
    · exact absurd heq.symm (hne q p h hq)
    · exact h
    · exact absurd heq (hne p q h hp)
  · have := h4 p hp
    rw [ho] at this
    simp only [Array.all_eq_true_iff_forall_mem] at this
    have := this e he
    rw [hb] at this
    simp only [Bool.not_true, Bool.false_or] at this
    exact mem_take_ix (by omega) (List.contains_iff_mem.1 this)

theorem mem_range'_iff {a n x : Nat} (h : a ≤ n) : x ∈ List.range' a (n - a) ↔ a ≤ x ∧ x < n := by
  rw [List.mem_range'_1]
  constructor
  · rintro ⟨h1, h2⟩; exact ⟨h1, by omega⟩
  · rintro ⟨h1, h2⟩; exact ⟨h1, by omega⟩

theorem groupB_spec {md : Region.Mode} {os : List Nat} {a n : Nat} (hO : OrdOk md ops os) (han : a ≤ n) (h : groupB md ops os a n = true) : GroupOk md ops os a n := by
  simp only [groupB, Bool.and_eq_true, List.all_eq_true, Bool.or_eq_true, List.any_eq_true] at h
  obtain ⟨⟨⟨h1, h5⟩, h6⟩, h7⟩ := h
  have hle : n ≤ ops.size := Nat.le_of_ble_eq_true h1
  refine ⟨hO, hle, fun k j d hk hk2 hj hj2 hd hne => ?_, fun k j d o hk hk2 hj hj2 hd ho hm => ?_, fun hlt k hk hk2 => ?_, fun p hp hps => ?_⟩
  · have := h5 k ((mem_range'_iff han).2 ⟨hk, hk2⟩)
    rw [hd] at this
    simp only [List.all_eq_true, Bool.and_eq_true, Bool.or_eq_true] at this
    rcases (this j ((mem_range'_iff han).2 ⟨hj, hj2⟩)).1 with h9 | h9
    · exact absurd (Nat.eq_of_beq_eq_true h9) hne
    · intro hjd
      rw [hjd] at h9
      simp at h9
  · have := h5 k ((mem_range'_iff han).2 ⟨hk, hk2⟩)
    rw [hd] at this
    simp only [List.all_eq_true, Bool.and_eq_true, Bool.or_eq_true] at this
    have h9 := (this j ((mem_range'_iff han).2 ⟨hj, hj2⟩)).2
    rw [ho] at h9
    simp only [Bool.or_eq_true, Bool.and_eq_true, Bool.not_eq_true', Nat.blt_eq] at h9
    rcases h9 with h9 | h9
    · have hc : (o.looksAt ops).contains d = true := List.contains_iff_mem.2 hm
      rw [hc] at h9; cases h9
    · exact h9
  · rcases h6 with h6 | h6
    · have := Nat.eq_of_beq_eq_true h6; omega
    · obtain ⟨j, hj, hj1, hj2⟩ := h6 k ((mem_range'_iff han).2 ⟨hk, hk2⟩)
      rw [Nat.blt_eq] at hj1
      have := List.mem_range.1 hj
      exact ⟨j, hj1, by omega, hj2⟩
  · rcases h7 p (List.mem_range.2 hps) with (h9 | h9) | h9
    · have := Nat.le_of_ble_eq_true h9; omega
    · obtain ⟨s, hs, hs2⟩ := h9
      obtain ⟨hs3, hs4⟩ := (mem_range'_iff (by omega)).1 hs
      exact .inl ⟨s, hs3, hs4, hs2⟩
    · exact .inr ⟨Nat.eq_of_beq_eq_true h9.1, h9.2⟩

/-- All before the group are done, none behind it. -/
structure HeadO (md : Region.Mode) (ops : Array Oper) (os : List Nat) (a n : Nat) (listed : Array Bool) : Prop where
  size : listed.size = ops.size
  closed : ∀ (j : Nat) (oj : Oper), ops[j]? = some oj → listed.getD j false = true → ∀ e ∈ oj.after, Region.binds md e = true → listed.getD e.on false = true
  front : ∀ p, p < a → listed.getD (ix os p) false = true
  tail : ∀ t, n ≤ t → t < ops.size → listed.getD (ix os t) true = false

theorem HeadO.set {md : Region.Mode} {os : List Nat} {a n p : Nat} {listed : Array Bool} (inv : HeadO md ops os a n listed) (hD : GroupOk md ops os a n) (hi : ix os p ∈ Region.ready md ops listed) (hin : p < n) : HeadO md ops os a n (listed.setIfInBounds (ix os p) true) := by
  obtain ⟨_, oi, hoi, hall⟩ := mem_ready.1 hi
  refine ⟨by simp [inv.size], fun j oj hj hl e he hb => ?_, fun q hq => getD_set_true (inv.front q hq), fun t ht ht' => ?_⟩
  · by_cases hij : ix os p = j
    · subst hij
      have : oj = oi := Option.some.inj (hj.symm.trans hoi)
      subst this
      exact getD_set_true (hall e he hb)
    · rw [getD_set_ne false hij] at hl
      exact getD_set_true (inv.closed j oj hj hl e he hb)
  · have hne : ix os p ≠ ix os t := by
      intro h
      have := hD.inj p t (by have := hD.le; omega) ht' h
      omega
    rw [getD_set_ne true hne]; exact inv.tail t ht ht'

theorem tail_waitsO {md : Region.Mode} {os : List Nat} {a n : Nat} {listed : Array Bool} (hD : GroupOk md ops os a n) (inv : HeadO md ops os a n listed) :
    ∀ (d i : Nat), n - i = d → a ≤ i → i < n → listed.getD (ix os i) true = false → ∀ t, n ≤ t → t < ops.size → ix os t ∉ Region.ready md ops listed := by
  intro d
  induction d using Nat.strongRecOn with
  | _ d ih =>
    intro i hd hai hi hun t ht htlt hr
    obtain ⟨_, ot, hot, hall⟩ := mem_ready.1 hr
    by_cases htn : t = n
    · subst htn
      obtain ⟨j, hj1, hjle, hj2⟩ := hD.sink htlt i hai hi
      obtain ⟨oj, hoj, e, he, hb, hon⟩ := Region.waitsFor_spec hj2
      by_cases hjt : j = t
      · subst hjt
        have : oj = ot := Option.some.inj (hoj.symm.trans hot)
        subst this
        have h2 := hall e he hb
        rw [hon, getD_both hun] at h2
        cases h2
      · cases hl : listed.getD (ix os j) false with
        | true =>
          have h2 := inv.closed _ oj hoj hl e he hb
          rw [hon, getD_both hun] at h2
          cases h2
        | false =>
          have hjs : ix os j < listed.size := by rw [inv.size]; exact hD.lt j (by omega)
          exact ih (t - j) (by omega) j rfl (by omega) (by omega) (getD_in hjs hl) t (Nat.le_refl _) htlt hr
    · rcases hD.chain t (by omega) htlt with ⟨s, hs1, hs2, hs3⟩ | ⟨hn1, hs3⟩
      · obtain ⟨o', ho', e, he, hb, hon⟩ := Region.waitsFor_spec hs3
        have : o' = ot := Option.some.inj (ho'.symm.trans hot)
        subst this
        have h2 := hall e he hb
        rw [hon, getD_both (inv.tail s hs1 (by omega))] at h2
        cases h2
      · obtain ⟨o', ho', e, he, hb, hon⟩ := Region.waitsFor_spec hs3
        have : o' = ot := Option.some.inj (ho'.symm.trans hot)
        subst this
        have h2 := hall e he hb
        have hia : i = a := by omega
        subst hia
        rw [hon, getD_both hun] at h2
        cases h2

/-- Operations that look at no place and write none. -/
def blindO (o : Oper) : Bool :=
  match o.op with
  | .move _ | .assign _ | .extract _ _ => true
  | _ => false

theorem opsI_cons {lim : Nat} {x : Nat × Bool} {l : List (Nat × Bool)} {t : List Value} {σ : AS} : opsI P E rec ops lim (x :: l) t σ = match ops[x.1]? with
    | some o => andThen (op1 P E rec ops x.2 lim o t σ) fun v σ' => opsI P E rec ops lim l (putT t o.dst v) σ'
    | none => none := by
  simp only [opsI]
  cases ops[x.1]? with
  | none => rfl
  | some o =>
    dsimp only
    rcases op1 P E rec ops x.2 lim o t σ with _ | ⟨v, σ1⟩ <;> rfl

theorem opsI_append {lim : Nat} : ∀ (l m : List (Nat × Bool)) (t : List Value) (σ : AS), opsI P E rec ops lim (l ++ m) t σ = andThen (opsI P E rec ops lim l t σ) fun t1 σ1 => opsI P E rec ops lim m t1 σ1
  | [], m, t, σ => rfl
  | x :: l, m, t, σ => by
    simp only [List.cons_append, opsI_cons]
    cases ops[x.1]? with
    | none => rfl
    | some o =>
      dsimp only
      rcases op1 P E rec ops x.2 lim o t σ with _ | ⟨v, σ'⟩
      · rfl
      · simp only [andThen]
        rw [opsI_append l m]
        rfl

theorem blind_op1 {q : Bool} {lim : Nat} {o : Oper} (hb : blindO o = true) {t : List Value} {σ σ' : AS} {v : Value} (h : op1 P E rec ops q lim o t σ = some (v, σ')) : σ' = σ ∧ ∀ q' lim' σ2, op1 P E rec ops q' lim' o t σ2 = some (v, σ2) := by
  unfold op1 at h ⊢
  cases hq : Region.wanted o (yieldedL ops t) with
  | false =>
    rw [hq] at h
    simp only [cond_false, Option.some.injEq, Prod.mk.injEq] at h
    obtain ⟨rfl, rfl⟩ := h
    exact ⟨rfl, fun _ _ _ => rfl⟩
  | true =>
    rw [hq] at h
    simp only [cond_true] at h ⊢
    obtain ⟨dst, op, type, pos, after, guard⟩ := o
    cases op <;> (try (cases hb; done))
    case move x =>
      have h : some (ev t x, σ) = some (v, σ') := h
      simp only [Option.some.injEq, Prod.mk.injEq] at h
      obtain ⟨rfl, rfl⟩ := h
      exact ⟨rfl, fun _ _ _ => rfl⟩
    case assign x =>
      have h : some (ev t x, σ) = some (v, σ') := h
      simp only [Option.some.injEq, Prod.mk.injEq] at h
      obtain ⟨rfl, rfl⟩ := h
      exact ⟨rfl, fun _ _ _ => rfl⟩
    case extract x i =>
      have e0 : ∀ lim' σ2, operA P E rec lim' ⟨dst, .extract x i, type, pos, after, guard⟩ t σ2 = bif (asP (ev t x)).isSome || (asL (ev t x)).isSome then none else nextAny (runA P lim' (do pure (Next.value (← Instr.extract (ev t x) i))) σ2) := by
        intro lim' σ2
        unfold operA lop
        dsimp only
        cases ((asP (ev t x)).isSome || (asL (ev t x)).isSome) with
        | true => rfl
        | false =>
          show (match operB P E rec lim' ⟨dst, .extract x i, type, pos, after, guard⟩ t σ2 with | some (v, σ') => bif false then freezeA P false σ2.next v σ' else some (v, σ') | none => none) = _
          have : operB P E rec lim' ⟨dst, .extract x i, type, pos, after, guard⟩ t σ2 = nextAny (runA P lim' (do pure (Next.value (← Instr.extract (ev t x) i))) σ2) := rfl
          rw [this]
          rcases nextAny (runA P lim' (do pure (Next.value (← Instr.extract (ev t x) i))) σ2) with _ | ⟨_, _⟩ <;> rfl
      have hcnd : ((asP (ev t x)).isSome || (asL (ev t x)).isSome) = false := by
        cases hc : ((asP (ev t x)).isSome || (asL (ev t x)).isSome) with
        | false => rfl
        | true => rw [e0, hc] at h; cases h
      have e : ∀ lim' σ2, operA P E rec lim' ⟨dst, .extract x i, type, pos, after, guard⟩ t σ2 = nextAny (runA P lim' (do pure (Next.value (← Instr.extract (ev t x) i))) σ2) := fun lim' σ2 => by rw [e0, hcnd]; rfl
      clear e0 hcnd
      rw [e] at h
      simp only [e]
      rw [runA_bind] at h
      simp only [runA_bind]
      generalize ev t x = u at h
      cases u <;> (try (cases h; done))
      case tuple vs =>
        simp only [Instr.extract] at h ⊢
        cases hv : vs[i]? with
        | none => rw [hv] at h; cases h
        | some y =>
          rw [hv] at h
          have h : some (y, σ) = some (v, σ') := h
          simp only [Option.some.injEq, Prod.mk.injEq] at h
          obtain ⟨rfl, rfl⟩ := h
          exact ⟨rfl, fun _ _ _ => rfl⟩

/-- The run of the operations in any order, spelled out. -/
def StepAt (P : Program) (E : Env) (rec : Rec) (ops : Array Oper) (os : List Nat) (fl : Nat → Bool) (lim : Nat) (T : Nat → List Value) (S : Nat → AS) (V : Nat → Value) (j : Nat) : Prop :=
  ∃ o, ops[ix os j]? = some o ∧ op1 P E rec ops (fl j) lim o (T j) (S j) = some (V j, S (j + 1)) ∧ T (j + 1) = putT (T j) o.dst (V j)

theorem exists_run {os : List Nat} {fl : Nat → Bool} {lim : Nat} : ∀ (l : List (Nat × Bool)) (m : Nat) (t : List Value) (σ : AS) (t1 : List Value) (σ1 : AS), (∀ (i : Nat) (x : Nat × Bool), l[i]? = some x → x.1 = ix os (m + i) ∧ x.2 = fl (m + i)) → opsI P E rec ops lim l t σ = some (t1, σ1) →
    ∃ (T : Nat → List Value) (S : Nat → AS) (V : Nat → Value), T m = t ∧ S m = σ ∧ T (m + l.length) = t1 ∧ S (m + l.length) = σ1 ∧ ∀ j, m ≤ j → j < m + l.length → StepAt P E rec ops os fl lim T S V j
  | [], m, t, σ, t1, σ1, _, h => by
    simp only [opsI, Option.some.injEq, Prod.mk.injEq] at h
    obtain ⟨rfl, rfl⟩ := h
    exact ⟨fun _ => t, fun _ => σ, fun _ => undef, rfl, rfl, rfl, rfl, fun j h1 h2 => by simp at h2; omega⟩
  | x :: l, m, t, σ, t1, σ1, hx, h => by
    rw [opsI_cons] at h
    obtain ⟨hx1, hx2⟩ := hx 0 x rfl
    rw [Nat.add_zero] at hx1 hx2
    cases ho : ops[x.1]? with
    | none => rw [ho] at h; cases h
    | some o =>
    rw [ho] at h
    dsimp only at h
    cases h1 : op1 P E rec ops x.2 lim o t σ with
    | none => rw [h1] at h; cases h
    | some r =>
      obtain ⟨v, σ'⟩ := r
      rw [h1] at h
      obtain ⟨T, S, V, e1, e2, e3, e4, e5⟩ := exists_run l (m + 1) (putT t o.dst v) σ' t1 σ1 (fun i y hi => by have := hx (i + 1) y (by simpa using hi); rw [show m + 1 + i = m + (i + 1) by omega]; exact this) h
      refine ⟨fun j => if j = m then t else T j, fun j => if j = m then σ else S j, fun j => if j = m then v else V j, by simp, by simp, ?_, ?_, fun j hj hj2 => ?_⟩
      · simp only [List.length_cons]
        rw [if_neg (by omega), show m + (l.length + 1) = m + 1 + l.length by omega]; exact e3
      · simp only [List.length_cons]
        rw [if_neg (by omega), show m + (l.length + 1) = m + 1 + l.length by omega]; exact e4
      · by_cases hm : j = m
        · subst hm
          refine ⟨o, by rw [← hx1]; exact ho, ?_, ?_⟩
          · simp only [if_true]
            rw [if_neg (by omega), ← hx2, h1, e2]
          · simp only [if_true]
            rw [if_neg (by omega), e1]
        · obtain ⟨o', g1, g2, g3⟩ := e5 j (by omega) (by simp at hj2; omega)
          refine ⟨o', g1, ?_, ?_⟩
          · dsimp only; rw [if_neg hm, if_neg hm, if_neg hm, if_neg (by omega)]; exact g2
          · dsimp only; rw [if_neg (by omega), if_neg hm, if_neg hm]; exact g3

theorem least {p : Nat → Prop} (h : ∃ j, p j) : ∃ j, p j ∧ ∀ i, i < j → ¬ p i := by
  obtain ⟨j, hj⟩ := h
  induction j using Nat.strongRecOn with
  | _ j ih =>
    by_cases hs : ∃ i, i < j ∧ p i
    · obtain ⟨i, h1, h2⟩ := hs
      exact ih i h1 h2
    · exact ⟨j, hj, fun i h1 h2 => hs ⟨i, h1, h2⟩⟩

/-- The relation hangs on the places that the injection knows. -/
theorem R.dom {β : Inj} {σ σ' : AS} {w : World} (hR : R K W0 N0 β σ w) (h : ∀ i e, β i = some e → σ'.get i = σ.get i) : R K W0 N0 β σ' w where
  cells hb hg := hR.cells hb (by rw [← h _ _ hb]; exact hg)
  obj hb hg := hR.obj hb (by rw [← h _ _ hb]; exact hg)
  excl hij hi hj hgi hgj := hR.excl hij hi hj (by rw [← h _ _ hi]; exact hgi) (by rw [← h _ _ hj]; exact hgj)
  lt := hR.lt
  base := hR.base
  top := hR.top
  code hb hg := hR.code hb (by rw [← h _ _ hb]; exact hg)
  zr := hR.zr.keep rfl rfl (fun _ _ _ _ => rfl) (Nat.le_refl _) (fun _ _ _ hb hg hx => .inl ⟨_, _, _, hb, by rw [← h _ _ hb]; exact hg, hx, fun h => h, rfl⟩) fun _ _ _ _ _ hb hg => ⟨hb, by rw [← h _ _ hb]; exact hg⟩

section draw
variable {md : Region.Mode} {os : List Nat} {fl : Nat → Bool} {lim a n : Nat} {T : Nat → List Value} {S : Nat → AS} {V : Nat → Value}

/-- What the run of the prefix is known to be. -/
structure Pre (md : Region.Mode) (P : Program) (E : Env) (rec : Rec) (ops : Array Oper) (os : List Nat) (fl : Nat → Bool) (lim a n : Nat) (T : Nat → List Value) (S : Nat → AS) (V : Nat → Value) : Prop where
  ok : GroupOk md ops os a n
  step : ∀ j, a ≤ j → j < n → StepAt P E rec ops os fl lim T S V j
  quiet : ∀ j, a ≤ j → j < n → Kept (S j).next (S j) (S (j + 1))
  an : a ≤ n
  wf : (S a).Wf

theorem Pre.heaps (hP : Pre md P E rec ops os fl lim a n T S V) (i : Nat) (hai : a ≤ i) : ∀ j, i ≤ j → j ≤ n → (S i).Wf → (S i).next ≤ (S j).next ∧ (S j).Wf ∧ ∀ id, id < (S i).next → (S j).get id = (S i).get id := by
  intro j
  induction j with
  | zero => intro h1 _ hw; have : i = 0 := by omega
            subst this; exact ⟨Nat.le_refl _, hw, fun _ _ => rfl⟩
  | succ j ih =>
    intro h1 h2 hw
    by_cases hij : i = j + 1
    · subst hij; exact ⟨Nat.le_refl _, hw, fun _ _ => rfl⟩
    · obtain ⟨e1, e2, e3⟩ := ih (by omega) (by omega) hw
      have hk := hP.quiet j (by omega) (by omega)
      exact ⟨Nat.le_trans e1 hk.next, hk.wf e2, fun id hid => (hk.old id (by omega) (by omega)).trans (e3 id hid)⟩

theorem Pre.wfs (hP : Pre md P E rec ops os fl lim a n T S V) (j : Nat) (haj : a ≤ j) (hj : j ≤ n) : (S j).Wf := (hP.heaps a (Nat.le_refl _) j haj hj hP.wf).2.1
theorem Pre.nexts (hP : Pre md P E rec ops os fl lim a n T S V) {i j : Nat} (hai : a ≤ i) (hij : i ≤ j) (hj : j ≤ n) : (S i).next ≤ (S j).next := (hP.heaps i hai j hij hj (hP.wfs i hai (by omega))).1

theorem length_putT (t : List Value) (d : Option Tmp) (v : Value) : (putT t d v).length = t.length := by cases d <;> simp [putT]

theorem Pre.len (hP : Pre md P E rec ops os fl lim a n T S V) : ∀ j, a ≤ j → j ≤ n → (T j).length = (T a).length := by
  intro j
  induction j with
  | zero => intro h _; rw [Nat.le_zero.1 h]
  | succ j ih =>
    intro haj hj
    by_cases h : a = j + 1
    · rw [h]
    · obtain ⟨o, g1, g2, g3⟩ := hP.step j (by omega) (by omega)
      rw [g3, length_putT, ih (by omega) (by omega)]

theorem Pre.same (hP : Pre md P E rec ops os fl lim a n T S V) (x : Nat) : ∀ j, a ≤ j → j ≤ n → (∀ k, a ≤ k → k < j → dstOf ops (ix os k) ≠ some x) → (T j)[x]? = (T a)[x]? := by
  intro j
  induction j with
  | zero => intro h _ _; rw [Nat.le_zero.1 h]
  | succ j ih =>
    intro haj hj hk
    by_cases h : a = j + 1
    · rw [h]
    · obtain ⟨o, g1, g2, g3⟩ := hP.step j (by omega) (by omega)
      rw [g3, ← ih (by omega) (by omega) (fun k h h' => hk k h (by omega))]
      have := hk j (by omega) (by omega)
      simp only [dstOf, g1, Option.bind_some] at this
      cases hd : o.dst with
      | none => rfl
      | some d =>
        rw [hd] at this
        simp only [putT]
        rw [List.getElem?_set_ne]
        intro h; exact this (by rw [h])

theorem Pre.val (hP : Pre md P E rec ops os fl lim a n T S V) {k : Nat} (x : Nat) (hak : a ≤ k) (hd : dstOf ops (ix os k) = some x) (hx : x < (T a).length) : ∀ j, k < j → j ≤ n → (T j)[x]? = some (V k) := by
  intro j
  induction j with
  | zero => intro h; omega
  | succ j ih =>
    intro hk hj
    obtain ⟨o, g1, g2, g3⟩ := hP.step j (by omega) (by omega)
    rw [g3]
    by_cases hjk : j = k
    · subst hjk
      simp only [dstOf, g1, Option.bind_some] at hd
      rw [hd]
      simp only [putT]
      rw [List.getElem?_set_self]
      rw [hP.len j (by omega) (by omega)]; exact hx
    · have hne := hP.ok.apart k j x hak (by omega) (by omega) (by omega) hd hjk
      simp only [dstOf, g1, Option.bind_some] at hne
      rw [← ih (by omega) (by omega)]
      cases hd' : o.dst with
      | none => rfl
      | some d =>
        rw [hd'] at hne
        simp only [putT]
        rw [List.getElem?_set_ne]
        intro h; exact hne (by rw [h])

/-- Where the machine stands, when some of the operations are done. -/
structure Inv (md : Region.Mode) (K : FuncId → Code → Prop) (W0 : World) (N0 : Nat) (ops : Array Oper) (os : List Nat) (a n : Nat) (T : Nat → List Value) (S : Nat → AS) (V : Nat → Value) (τ : AS) (β0 β : Inj) (listed : Array Bool) (tr : Array Value) (w : World) : Prop where
  head : HeadO md ops os a n listed
  ext : Ext β0 β (S a) (S n)
  fresh : ∀ j, a ≤ j → j < n → listed.getD (ix os j) true = false → ∀ i, (S j).next ≤ i → i < (S (j + 1)).next → β i = none
  rel : R K W0 N0 β τ w
  size : tr.size = (T a).length
  old : ∀ x, (∀ k, a ≤ k → k < n → dstOf ops (ix os k) ≠ some x) → lkRel β (T a)[x]? tr[x]?
  new : ∀ k, a ≤ k → k < n → listed.getD (ix os k) false = true → ∀ x, dstOf ops (ix os k) = some x → x < (T a).length → ∃ v', tr[x]? = some v' ∧ vRel β (V k) v'

theorem size_putA (t : Array Value) (d : Option Tmp) (v : Value) : (putA t d v).size = t.size := by cases d <;> simp [putA]

theorem Inv.step (H : Given P K W0 N0 G E rec) (hP : Pre md P E rec ops os fl lim a n T S V) (hB : ∀ (j : Nat) (o : Oper), ops[j]? = some o → opB G o = true) {τ : AS} (hτ : ∀ i, i < (S n).next → τ.get i = (S n).get i) {β0 β : Inj} (hG : GlobOk G β0) {listed : Array Bool} {tr : Array Value} {w : World}
    (inv : Inv md K W0 N0 ops os a n T S V τ β0 β listed tr w) {i : Nat} (hi : ix os i ∈ Region.ready md ops listed) (hai : a ≤ i) (hin : i < n) (b : Frame) (d : List Deferred) (rest : List Nat) (k : List Item) (cs : List Frame) :
    ∃ w' β' tr', Inv md K W0 N0 ops os a n T S V τ β0 β' (listed.setIfInBounds (ix os i) true) tr' w' ∧ Steps P (lone (Fr b tr d (.inRegion ops (ix os i :: rest) :: k)) cs w) (lone (Fr b tr' d (.inRegion ops rest :: k)) cs w') := by
  obtain ⟨hun, o, ho, hall⟩ := mem_ready.1 hi
  obtain ⟨o', g1, g2, g3⟩ := hP.step i hai hin
  have : o' = o := Option.some.inj (g1.symm.trans ho)
  subst this
  have hwi := hP.wfs i hai (by omega)
  have hw1 := hP.wfs (i + 1) (by omega) (by omega)
  have n1 := hP.nexts (i := i) (j := i + 1) hai (by omega) (by omega)
  have n2 := hP.nexts (i := i + 1) (j := n) (by omega) (by omega) (by omega)
  have n0 := hP.nexts (i := a) (j := i) (Nat.le_refl _) hai (by omega)
  obtain ⟨_, _, get1⟩ := hP.heaps i hai n (by omega) (Nat.le_refl _) hwi
  obtain ⟨_, _, get2⟩ := hP.heaps (i + 1) (by omega) n (by omega) (Nat.le_refl _) hw1
  have hl : (S i).Like { τ with next := (S i).next } := ⟨rfl, fun id hid => by
    show τ.get id = _
    rw [hτ id (by omega), get1 id hid]⟩
  have hR : R K W0 N0 β { τ with next := (S i).next } w := inv.rel.dom fun _ _ _ => rfl
  have hf : Fresh β (S i) (S (i + 1)) := fun id h1 h2 => inv.fresh i hai hin hun id h1 h2
  have hs : Sees ops β o' (T i) tr := by
    intro x hx
    by_cases hk : ∃ k, a ≤ k ∧ k < n ∧ dstOf ops (ix os k) = some x
    · obtain ⟨k, hak, hk, hd⟩ := hk
      obtain ⟨hki, hwt⟩ := hP.ok.looks k i x o' hak hk hai hin hd ho hx
      obtain ⟨oj, hoj, e, he, hb, hon⟩ := Region.waitsFor_spec hwt
      have : oj = o' := Option.some.inj (hoj.symm.trans ho)
      subst this
      have hlk := hall e he hb
      rw [hon] at hlk
      by_cases hx : x < (T a).length
      · obtain ⟨v', h1, h2⟩ := inv.new k hak hk hlk x hd hx
        exact .inr ⟨_, v', hP.val x hak hd hx i hki (by omega), h1, h2⟩
      · refine .inl ⟨?_, ?_⟩
        · rw [List.getElem?_eq_none_iff, hP.len i hai (by omega)]; exact Nat.le_of_not_lt hx
        · rw [Array.getElem?_eq_none_iff, inv.size]; exact Nat.le_of_not_lt hx
    · have hno : ∀ k, a ≤ k → k < n → dstOf ops (ix os k) ≠ some x := fun k h0 h1 h2 => hk ⟨k, h0, h1, h2⟩
      rw [hP.same x i hai (by omega) fun k h0 h1 => hno k h0 (by omega)]
      exact inv.old x hno
  obtain ⟨v', w', ⟨β', τ', x1, l1, R1, hv⟩, hst⟩ := op_steps H ho g2 (hB (ix os i) o' ho) hwi hl hR hf (hG.mono inv.ext.1) hs b d rest k cs
  refine ⟨w', β', putA tr o'.dst v', ⟨inv.head.set hP.ok hi hin, ?_, ?_, ?_, ?_, ?_, ?_⟩, hst⟩
  · refine ⟨inv.ext.1.trans x1.1, fun id e he => ?_⟩
    rcases x1.2 id e he with h1 | h1
    · exact inv.ext.2 id e h1
    · exact .inr (by omega)
  · intro j haj hj hju id h1 h2
    have hle := hP.ok.le
    have hne : i ≠ j := by
      intro h; subst h
      have hsz : ix os i < listed.size := by rw [inv.head.size]; exact (Array.getElem?_eq_some_iff.1 ho).1
      simp [hsz] at hju
    have hne' : ix os i ≠ ix os j := fun h => hne (hP.ok.inj i j (by omega) (by omega) h)
    rw [getD_set_ne true hne'] at hju
    cases hb : β' id with
    | none => rfl
    | some e =>
      rcases x1.2 id e hb with h3 | h3
      · rw [inv.fresh j haj hj hju id h1 h2] at h3; cases h3
      · rcases Nat.lt_or_gt_of_ne hne with h4 | h4
        · have := hP.nexts (i := i + 1) (j := j) (by omega) (by omega) (by omega); omega
        · have := hP.nexts (i := j + 1) (j := i) (by omega) (by omega) (by omega); omega
  · refine R1.dom fun id e _ => ?_
    rcases Nat.lt_or_ge id (S (i + 1)).next with h | h
    · rw [l1.below id h, hτ id (by omega), get2 id h]
    · rw [l1.above id h]; rfl
  · rw [size_putA]; exact inv.size
  · intro x hx
    have hno := hx i hai hin
    simp only [dstOf, ho, Option.bind_some] at hno
    have : (putA tr o'.dst v')[x]? = tr[x]? := by
      cases hd : o'.dst with
      | none => rfl
      | some d =>
        rw [hd] at hno
        simp only [putA]
        rw [Array.getElem?_setIfInBounds_ne]
        intro h; exact hno (by rw [h])
    rw [this]
    exact (inv.old x hx).mono x1.1
  · intro j haj hj hlj x hd hx
    by_cases hij : i = j
    · subst hij
      simp only [dstOf, ho, Option.bind_some] at hd
      rw [hd]
      refine ⟨v', ?_, hv⟩
      simp only [putA]
      rw [Array.getElem?_setIfInBounds_self_of_lt]
      rw [inv.size]; exact hx
    · have hle := hP.ok.le
      have hij' : ix os i ≠ ix os j := fun h => hij (hP.ok.inj i j (by omega) (by omega) h)
      rw [getD_set_ne false hij'] at hlj
      obtain ⟨u', h1, h2⟩ := inv.new j haj hj hlj x hd hx
      refine ⟨u', ?_, h2.mono x1.1⟩
      have hne := hP.ok.apart j i x haj hj hai hin hd hij
      simp only [dstOf, ho, Option.bind_some] at hne
      cases hd' : o'.dst with
      | none => exact h1
      | some d =>
        rw [hd'] at hne
        simp only [putA]
        rw [Array.getElem?_setIfInBounds_ne]
        · exact h1
        · intro h; exact hne (by rw [h])

theorem go_step {fuel t : Nat} {listed : Array Bool} (h : Region.ready md ops listed ≠ []) :
    ∃ i t', i ∈ Region.ready md ops listed ∧ Region.linearise.go md ops (fuel + 1) t listed [] = i :: Region.linearise.go md ops fuel t' (listed.setIfInBounds i true) [] := by
  have hlt : t % (Region.ready md ops listed).length < (Region.ready md ops listed).length := Nat.mod_lt _ (List.length_pos_iff.2 h)
  refine ⟨(Region.ready md ops listed)[t % (Region.ready md ops listed).length], t / (Region.ready md ops listed).length, List.getElem_mem hlt, ?_⟩
  simp only [Region.linearise.go]
  change (match (Region.ready md ops listed)[t % (Region.ready md ops listed).length]? with
      | some i => Region.linearise.go md ops fuel (t / (Region.ready md ops listed).length) (listed.setIfInBounds i true) [i]
      | none => [].reverse) = _
  rw [List.getElem?_eq_getElem hlt]
  simp only []
  rw [linearise_go_acc]
  rfl

theorem Inv.all (H : Given P K W0 N0 G E rec) (hP : Pre md P E rec ops os fl lim a n T S V) (hB : ∀ (j : Nat) (o : Oper), ops[j]? = some o → opB G o = true) {τ : AS} (hτ : ∀ i, i < (S n).next → τ.get i = (S n).get i) {β0 : Inj} (hG : GlobOk G β0) (b : Frame) (d : List Deferred) (k : List Item) (cs : List Frame) :
    ∀ (m : Nat) (U : List Nat) (listed : Array Bool) (tr : Array Value) (w : World) (β : Inj) (t : Nat), U.length = m → U.Nodup → (∀ j, j ∈ U ↔ (a ≤ j ∧ j < n) ∧ listed.getD (ix os j) true = false) → Inv md K W0 N0 ops os a n T S V τ β0 β listed tr w →
    ∃ w' β' tr' listed' t', Inv md K W0 N0 ops os a n T S V τ β0 β' listed' tr' w' ∧ (∀ j, j < n → listed'.getD (ix os j) false = true) ∧
      Steps P (lone (Fr b tr d (.inRegion ops (Region.linearise.go md ops (m + (ops.size - n)) t listed []) :: k)) cs w) (lone (Fr b tr' d (.inRegion ops (Region.linearise.go md ops (ops.size - n) t' listed' []) :: k)) cs w') := by
  intro m
  have hle := hP.ok.le
  induction m with
  | zero =>
    intro U listed tr w β t hU _ hmem inv
    have hU : U = [] := List.length_eq_zero_iff.1 hU
    refine ⟨w, β, tr, listed, t, inv, fun j hj => ?_, ?_⟩
    · cases h : listed.getD (ix os j) false with
      | true => rfl
      | false =>
        by_cases haj : a ≤ j
        · have := (hmem j).2 ⟨⟨haj, hj⟩, getD_in (by rw [inv.head.size]; exact hP.ok.lt j (by omega)) h⟩
          rw [hU] at this; cases this
        · rw [inv.head.front j (by omega)] at h; cases h
    · rw [Nat.zero_add]; exact .refl _ _
  | succ m ih =>
    intro U listed tr w β t hU hnd hmem inv
    obtain ⟨u, hu⟩ : ∃ u, u ∈ U := by
      cases U with
      | nil => simp at hU
      | cons u _ => exact ⟨u, by simp⟩
    obtain ⟨j, hj, hleast⟩ := least (p := fun j => (a ≤ j ∧ j < n) ∧ listed.getD (ix os j) true = false) ⟨u, (hmem u).1 hu⟩
    have hjs : ix os j < ops.size := hP.ok.lt j (by omega)
    have hjr : ix os j ∈ Region.ready md ops listed := by
      refine mem_ready.2 ⟨hj.2, ops[ix os j], Array.getElem?_eq_getElem hjs, fun e he hb => ?_⟩
      obtain ⟨q, hlt, heq⟩ := hP.ok.back j ops[ix os j] (by omega) (Array.getElem?_eq_getElem hjs) e he hb
      rw [heq]
      cases h : listed.getD (ix os q) false with
      | true => rfl
      | false =>
        by_cases haq : a ≤ q
        · exact absurd ⟨⟨haq, by omega⟩, getD_in (by rw [inv.head.size]; exact hP.ok.lt q (by omega)) h⟩ (hleast q hlt)
        · rw [inv.head.front q (by omega)] at h; cases h
    obtain ⟨i0, t', hi, hgo⟩ := go_step (fuel := m + (ops.size - n)) (t := t) (listed := listed) (by intro h; rw [h] at hjr; cases hjr)
    have his : i0 < ops.size := by
      obtain ⟨_, o, ho, _⟩ := mem_ready.1 hi
      exact (Array.getElem?_eq_some_iff.1 ho).1
    obtain ⟨i, hips, rfl⟩ := hP.ok.surj i0 his
    have hin : i < n := by
      rcases Nat.lt_or_ge i n with h | h
      · exact h
      · exfalso
        exact tail_waitsO hP.ok inv.head _ j rfl hj.1.1 hj.1.2 hj.2 i h hips hi
    have hai : a ≤ i := by
      rcases Nat.lt_or_ge i a with h | h
      · have h1 := inv.head.front i h
        rw [getD_both (mem_ready.1 hi).1] at h1; cases h1
      · exact h
    obtain ⟨w1, β1, tr1, inv1, s1⟩ := inv.step H hP hB hτ hG hi hai hin b d (Region.linearise.go md ops (m + (ops.size - n)) t' (listed.setIfInBounds (ix os i) true) []) k cs
    have hiU : i ∈ U := (hmem i).2 ⟨⟨hai, hin⟩, (mem_ready.1 hi).1⟩
    obtain ⟨w', β', tr', listed', t'', inv', hl', s2⟩ := ih (U.erase i) (listed.setIfInBounds (ix os i) true) tr1 w1 β1 t' (by rw [List.length_erase_of_mem hiU]; omega) (hnd.erase i) (fun x => by
      rw [hnd.mem_erase_iff, hmem x]
      constructor
      · rintro ⟨h1, h2, h3⟩; exact ⟨h2, by rw [getD_set_ne true (fun h => h1 (hP.ok.inj x i (by omega) hips h.symm))]; exact h3⟩
      · rintro ⟨h1, h2⟩
        have hne : x ≠ i := by
          intro h; subst h
          have : ix os x < listed.size := by rw [inv.head.size]; exact his
          simp [this] at h2
        exact ⟨hne, h1, by rw [getD_set_ne true (fun h => hne (hP.ok.inj x i (by omega) hips h.symm))] at h2; exact h2⟩) inv1
    refine ⟨w', β', tr', listed', t'', inv', hl', ?_⟩
    rw [show m + 1 + (ops.size - n) = m + (ops.size - n) + 1 by omega, hgo]
    exact s1.trans s2

end draw

end Go.Va

/-
  SIMULATION: the groups of a region that draws its order, one behind the other.
-/
namespace Go.Va
open Go.RowKit
variable {P : Program} {K : FuncId → Code → Prop} {W0 : World} {N0 G : Nat} {E : Env} {rec : Rec} {ops : Array Oper} {md : Region.Mode} {os : List Nat} {fl : Nat → Bool} {lim a n : Nat}

def blindIx (ops : Array Oper) (i : Nat) : Bool := match ops[i]? with
  | some o => blindO o
  | none => false

/-- Just the operations before the place n are done. -/
def Done (md : Region.Mode) (ops : Array Oper) (os : List Nat) (n : Nat) (listed : Array Bool) : Prop := HeadO md ops os n n listed

theorem Done.head {listed : Array Bool} (h : Done md ops os a listed) (han : a ≤ n) : HeadO md ops os a n listed := ⟨h.size, h.closed, h.front, fun t ht => h.tail t (by omega)⟩

theorem group_any (H : Given P K W0 N0 G E rec) (hD : GroupOk md ops os a n) (han : a ≤ n) (hB : ∀ (j : Nat) (o : Oper), ops[j]? = some o → opB G o = true) {l : List (Nat × Bool)} (hlen : l.length = n - a) (hx : ∀ (i : Nat) (x : Nat × Bool), l[i]? = some x → x.1 = ix os (a + i) ∧ x.2 = fl (a + i))
    (hq : ∀ x ∈ l, x.2 = true ∨ blindIx ops x.1 = true) {t t1 : List Value} {tr : Array Value} {σ σ1 τ : AS} (h1 : opsI P E rec ops lim l t σ = some (t1, σ1)) {β : Inj} {w : World} (hw : σ.Wf) (hl : σ.Like τ) (hR : R K W0 N0 β τ w) (hf : Fresh β σ σ1) (hG : GlobOk G β)
    (ht : lRel β t tr.toList) {listed : Array Bool} (hd : Done md ops os a listed) (tape : Nat) (b : Frame) (d : List Deferred) (k : List Item) (cs : List Frame) :
    ∃ w' β' τ' tr' listed' tape', Ext β β' σ σ1 ∧ σ1.Led τ τ' ∧ R K W0 N0 β' τ' w' ∧ lRel β' t1 tr'.toList ∧ Done md ops os n listed' ∧
      Steps P (lone (Fr b tr d (.inRegion ops (Region.linearise.go md ops (ops.size - a) tape listed []) :: k)) cs w) (lone (Fr b tr' d (.inRegion ops (Region.linearise.go md ops (ops.size - n) tape' listed' []) :: k)) cs w') := by
  have hle := hD.le
  have hlen' := hD.len
  have han' : a + l.length = n := by omega
  obtain ⟨T, S, V, rfl, rfl, e3, e4, hst⟩ := exists_run (os := os) (fl := fl) l a t σ t1 σ1 hx h1
  rw [han'] at e3 e4 hst
  subst e3 e4
  have hP : Pre md P E rec ops os fl lim a n T S V := by
    have wf : ∀ j, a ≤ j → j ≤ n → (S j).Wf := by
      intro j
      induction j with
      | zero => intro h _; have : a = 0 := by omega
                subst this; exact hw
      | succ j ih =>
        intro haj hj
        by_cases h : a = j + 1
        · rw [← h]; exact hw
        · obtain ⟨o, g1, g2, g3⟩ := hst j (by omega) (by omega)
          exact ((good_op1 H.ovGood H.good) _ _ _ g2 (ih (by omega) (by omega))).1.wf (ih (by omega) (by omega))
    refine ⟨hD, hst, fun j haj hj => ?_, han, hw⟩
    obtain ⟨o, g1, g2, g3⟩ := hst j haj hj
    have hjl : j - a < l.length := by omega
    obtain ⟨hx1, hx2⟩ := hx (j - a) l[j - a] (List.getElem?_eq_getElem hjl)
    rw [show a + (j - a) = j by omega] at hx1 hx2
    rcases hq l[j - a] (by simp) with h | h
    · rw [← hx2, h] at g2
      exact quiet_op1 H.ovGood H.good g2 (wf j haj (by omega))
    · unfold blindIx at h
      rw [hx1, g1] at h
      rw [(blind_op1 h g2).1]
      exact .refl _ _
  obtain ⟨_, hwn, getn⟩ := hP.heaps a (Nat.le_refl _) n han (Nat.le_refl _) hw
  have kn := ((good_opsI H.ovGood H.good (P := P) (lim := lim) (ops := ops) l (T a)) (S a) (T n) (S n) h1 hw)
  obtain ⟨τn, _, ln⟩ := kn.2 τ hl
  have hτ : ∀ i, i < (S n).next → τn.get i = (S n).get i := ln.below
  have inv0 : Inv md K W0 N0 ops os a n T S V τn β β listed tr w := by
    refine ⟨hd.head han, ⟨.refl _, fun _ _ h => .inl h⟩, fun j haj hj _ i h3 h4 => ?_, hR.dom fun i e he => ?_, ?_, fun x _ => ht.look x, fun j haj hj hl' => ?_⟩
    · have n1 := hP.nexts (i := a) (j := j) (Nat.le_refl _) haj (by omega)
      have n2 := hP.nexts (i := j + 1) (j := n) (by omega) (by omega) (Nat.le_refl _)
      exact hf i (by omega) (by omega)
    · rcases Nat.lt_or_ge i (S a).next with h | h
      · rw [ln.below i (by have := kn.1.next; omega), getn i h, hl.2 i h]
      · rcases Nat.lt_or_ge i (S n).next with h' | h'
        · rw [hf i h h'] at he; cases he
        · exact ln.above i h'
    · have := ht.length; simp only [Array.length_toList] at this; omega
    · rw [getD_both (hd.tail j haj (by omega))] at hl'; cases hl'
  obtain ⟨w1, β1, tr1, listed', t', inv, hall, s1⟩ := Inv.all H hP hB hτ hG b d k cs (n - a) (List.range' a (n - a)) listed tr w β tape (by simp) List.nodup_range' (fun j => by
    rw [mem_range'_iff han]
    constructor
    · intro hj; exact ⟨hj, hd.tail j hj.1 (by omega)⟩
    · rintro ⟨hj, _⟩; exact hj) inv0
  have htn : lRel β1 (T n) tr1.toList := by
    have hsz := inv.size
    have hln := hP.len n han (Nat.le_refl _)
    refine lRel.of_get (by rw [hln, ← hsz]; simp) fun x hx hx' => ?_
    have hx0 : x < (T a).length := by rw [hln] at hx; exact hx
    have hxs : x < tr1.size := by simpa using hx'
    show vRel β1 (T n)[x] tr1[x]
    by_cases hk : ∃ k, a ≤ k ∧ k < n ∧ dstOf ops (ix os k) = some x
    · obtain ⟨k, hak, hk, hd⟩ := hk
      obtain ⟨v', e1, e2⟩ := inv.new k hak hk (hall k hk) x hd hx0
      have e3 := hP.val x hak hd hx0 n hk (Nat.le_refl _)
      rw [List.getElem?_eq_getElem hx, Option.some.injEq] at e3
      rw [Array.getElem?_eq_getElem hxs, Option.some.injEq] at e1
      rw [e3, e1]; exact e2
    · have hno : ∀ k, a ≤ k → k < n → dstOf ops (ix os k) ≠ some x := fun k h0 h1 h2 => hk ⟨k, h0, h1, h2⟩
      have e3 := hP.same x n han (Nat.le_refl _) hno
      rcases inv.old x hno with ⟨e1, _⟩ | ⟨v, v', e1, e2, e4⟩
      · rw [List.getElem?_eq_getElem hx0] at e1; cases e1
      · rw [e1, List.getElem?_eq_getElem hx, Option.some.injEq] at e3
        rw [Array.getElem?_eq_getElem hxs, Option.some.injEq] at e2
        rw [e3, e2]; exact e4
  refine ⟨w1, β1, τn, tr1, listed', t', inv.ext, ln, inv.rel, htn, ⟨inv.head.size, inv.head.closed, hall, inv.head.tail⟩, ?_⟩
  rw [show n - a + (ops.size - n) = ops.size - a by omega] at s1
  exact s1

theorem group_one (H : Given P K W0 N0 G E rec) (hD : GroupOk md ops os a (a + 1)) (hB : ∀ (j : Nat) (o : Oper), ops[j]? = some o → opB G o = true) {x : Nat × Bool} (hx : x.1 = ix os a) {t t1 : List Value} {tr : Array Value} {σ σ1 τ : AS}
    (h1 : opsI P E rec ops lim [x] t σ = some (t1, σ1)) {β : Inj} {w : World} (hw : σ.Wf) (hl : σ.Like τ) (hR : R K W0 N0 β τ w) (hf : Fresh β σ σ1) (hG : GlobOk G β)
    (ht : lRel β t tr.toList) {listed : Array Bool} (hd : Done md ops os a listed) (tape : Nat) (b : Frame) (d : List Deferred) (k : List Item) (cs : List Frame) :
    ∃ w' β' τ' tr' listed' tape', Ext β β' σ σ1 ∧ σ1.Led τ τ' ∧ R K W0 N0 β' τ' w' ∧ lRel β' t1 tr'.toList ∧ Done md ops os (a + 1) listed' ∧
      Steps P (lone (Fr b tr d (.inRegion ops (Region.linearise.go md ops (ops.size - a) tape listed []) :: k)) cs w) (lone (Fr b tr' d (.inRegion ops (Region.linearise.go md ops (ops.size - (a + 1)) tape' listed' []) :: k)) cs w') := by
  have hle := hD.le
  have has : ix os a < ops.size := hD.lt a (by omega)
  have har : ix os a ∈ Region.ready md ops listed := by
    refine mem_ready.2 ⟨hd.tail a (Nat.le_refl _) (by omega), ops[ix os a], Array.getElem?_eq_getElem has, fun e he hb => ?_⟩
    obtain ⟨q, hq, heq⟩ := hD.back a ops[ix os a] (by omega) (Array.getElem?_eq_getElem has) e he hb
    rw [heq]; exact hd.front q hq
  obtain ⟨i0, t', hi, hgo⟩ := go_step (fuel := ops.size - (a + 1)) (t := tape) (listed := listed) (by intro h; rw [h] at har; cases har)
  obtain ⟨hun, o, ho, hall⟩ := mem_ready.1 hi
  have his : i0 < ops.size := (Array.getElem?_eq_some_iff.1 ho).1
  obtain ⟨i, hips, rfl⟩ := hD.surj i0 his
  have hia : i = a := by
    rcases Nat.lt_trichotomy i a with h | h | h
    · have h3 := hd.front i h
      rw [getD_both hun] at h3; cases h3
    · exact h
    · exact absurd hi (tail_waitsO hD (hd.head (by omega)) _ a rfl (Nat.le_refl _) (by omega) (hd.tail a (Nat.le_refl _) (by omega)) i (by omega) hips)
  subst hia
  rw [opsI_cons, hx, ho] at h1
  dsimp only at h1
  cases h2 : op1 P E rec ops x.2 lim o t σ with
  | none => rw [h2] at h1; cases h1
  | some r =>
    obtain ⟨v, σ'⟩ := r
    rw [h2] at h1
    have h1 : some (putT t o.dst v, σ') = some (t1, σ1) := h1
    simp only [Option.some.injEq, Prod.mk.injEq] at h1
    obtain ⟨rfl, rfl⟩ := h1
    obtain ⟨v', w', ⟨β', τ', x1, l1, R1, hv⟩, s1⟩ := op_steps H ho h2 (hB _ o ho) hw hl hR hf hG (fun d _ => ht.look d) b d (Region.linearise.go md ops (ops.size - (i + 1)) t' (listed.setIfInBounds (ix os i) true) []) k cs
    have hset := HeadO.set (hd.head (n := i + 1) (by omega)) hD hi (by omega)
    refine ⟨w', β', τ', putA tr o.dst v', listed.setIfInBounds (ix os i) true, t', x1, l1, R1, lRel_putT (ht.mono x1.1) hv o.dst, ⟨hset.size, hset.closed, fun p hp => ?_, hset.tail⟩, ?_⟩
    · by_cases hpi : p = i
      · subst hpi
        have : ix os p < listed.size := by rw [hd.size]; exact his
        simp [this]
      · exact hset.front p (by omega)
    · rw [show ops.size - i = ops.size - (i + 1) + 1 by omega, hgo]
      exact s1

end Go.Va

/-
  SIMULATION: a region that draws its order, by its plan; operations that are blind may run later.
-/
namespace Go.Va
open Go.RowKit
variable {P : Program} {K : FuncId → Code → Prop} {W0 : World} {N0 G : Nat} {E : Env} {rec : Rec} {ops : Array Oper} {md : Region.Mode} {lim : Nat}

def groupsB (md : Region.Mode) (ops : Array Oper) (l : List (Nat × Bool)) : Nat → List Nat → Bool
  | a, [] => Nat.beq a ops.size
  | a, g :: gs => groupB md ops (l.map (·.1)) a (a + g) && (Nat.beq g 1 || ((l.drop a).take g).all fun x => x.2 || blindIx ops x.1) && groupsB md ops l (a + g) gs

def planB (md : Region.Mode) (ops : Array Oper) (l : List (Nat × Bool)) (gs : List Nat) : Bool := ordB md ops (l.map (·.1)) && groupsB md ops l 0 gs

theorem ix_map {l : List (Nat × Bool)} {p : Nat} {x : Nat × Bool} (h : l[p]? = some x) : x.1 = ix (l.map (·.1)) p := by
  unfold ix
  rw [List.getD_eq_getElem?_getD, List.getElem?_map, h]; rfl

theorem groups_run (H : Given P K W0 N0 G E rec) {l : List (Nat × Bool)} (hO : OrdOk md ops (l.map (·.1))) (hB : ∀ (j : Nat) (o : Oper), ops[j]? = some o → opB G o = true) (b : Frame) (d : List Deferred) (k : List Item) (cs : List Frame) :
    ∀ (gs : List Nat) (a : Nat), groupsB md ops l a gs = true → ∀ (t t2 : List Value) (tr : Array Value) (σ σ2 τ : AS), opsI P E rec ops lim (l.drop a) t σ = some (t2, σ2) → ∀ (β : Inj) (w : World), σ.Wf → σ.Like τ → R K W0 N0 β τ w → Fresh β σ σ2 → GlobOk G β →
    lRel β t tr.toList → ∀ (listed : Array Bool), Done md ops (l.map (·.1)) a listed → ∀ tape,
    ∃ w' β' τ' tr', Ext β β' σ σ2 ∧ σ2.Led τ τ' ∧ R K W0 N0 β' τ' w' ∧ lRel β' t2 tr'.toList ∧
      Steps P (lone (Fr b tr d (.inRegion ops (Region.linearise.go md ops (ops.size - a) tape listed []) :: k)) cs w) (lone (Fr b tr' d (.inRegion ops [] :: k)) cs w') := by
  have hll : l.length = ops.size := by have := hO.len; simpa using this
  intro gs
  induction gs with
  | nil =>
    intro a h t t2 tr σ σ2 τ h1 β w hw hl hR hf hG ht listed hd tape
    have ha : a = ops.size := Nat.eq_of_beq_eq_true h
    rw [List.drop_of_length_le (by omega)] at h1
    simp only [opsI, Option.some.injEq, Prod.mk.injEq] at h1
    obtain ⟨rfl, rfl⟩ := h1
    refine ⟨w, β, τ, tr, .refl _ _, .refl hl, hR, ht, ?_⟩
    rw [ha, Nat.sub_self]
    exact .refl _ _
  | cons g gs ih =>
    intro a h t t2 tr σ σ2 τ h1 β w hw hl hR hf hG ht listed hd tape
    simp only [groupsB, Bool.and_eq_true] at h
    obtain ⟨⟨hg, hq⟩, hgs⟩ := h
    have hD := groupB_spec hO (by omega) hg
    have hle := hD.le
    have hsplit : l.drop a = (l.drop a).take g ++ l.drop (a + g) := by
      rw [← List.drop_drop]; exact (List.take_append_drop g (l.drop a)).symm
    rw [hsplit, opsI_append] at h1
    cases h2 : opsI P E rec ops lim ((l.drop a).take g) t σ with
    | none => rw [h2] at h1; cases h1
    | some r =>
      obtain ⟨t1, σ1⟩ := r
      rw [h2] at h1
      have h1 : opsI P E rec ops lim (l.drop (a + g)) t1 σ1 = some (t2, σ2) := h1
      have k1 := ((good_opsI H.ovGood H.good (P := P) (lim := lim) (ops := ops) ((l.drop a).take g) t) σ t1 σ1 h2 hw).1
      have k2 := ((good_opsI H.ovGood H.good (P := P) (lim := lim) (ops := ops) (l.drop (a + g)) t1) σ1 t2 σ2 h1 (k1.wf hw)).1
      have hgl : ((l.drop a).take g).length = g := by simp; omega
      have hgx : ∀ (i : Nat) (x : Nat × Bool), ((l.drop a).take g)[i]? = some x → l[a + i]? = some x := by
        intro i x hx
        rw [List.getElem?_take] at hx
        split at hx
        · rw [List.getElem?_drop] at hx; exact hx
        · cases hx
      obtain ⟨w1, β1, τ1, tr1, listed', tape', x1, l1, R1, ht1, hd1, s1⟩ : ∃ w' β' τ' tr' listed' tape', Ext β β' σ σ1 ∧ σ1.Led τ τ' ∧ R K W0 N0 β' τ' w' ∧ lRel β' t1 tr'.toList ∧ Done md ops (l.map (·.1)) (a + g) listed' ∧
          Steps P (lone (Fr b tr d (.inRegion ops (Region.linearise.go md ops (ops.size - a) tape listed []) :: k)) cs w) (lone (Fr b tr' d (.inRegion ops (Region.linearise.go md ops (ops.size - (a + g)) tape' listed' []) :: k)) cs w') := by
        by_cases h1g : g = 1
        · subst h1g
          cases hl1 : (l.drop a).take 1 with
          | nil => rw [hl1] at hgl; simp at hgl
          | cons x rest =>
            have hr0 : rest = [] := by rw [hl1] at hgl; simpa using hgl
            subst hr0
            rw [hl1] at h2 hgx
            exact group_one H hD hB (ix_map (by simpa using hgx 0 x rfl)) h2 hw hl hR (hf.left k2.next) hG ht hd tape b d k cs
        · have hq' : ∀ x ∈ (l.drop a).take g, x.2 = true ∨ blindIx ops x.1 = true := by
            simp only [Bool.or_eq_true, List.all_eq_true] at hq
            rcases hq with hq | hq
            · exact absurd (Nat.eq_of_beq_eq_true hq) h1g
            · exact hq
          exact group_any (fl := fun p => (l[p]?.map (·.2)).getD false) H hD (by omega) hB (by rw [hgl]; omega) (fun i x hx => ⟨ix_map (hgx i x hx), by rw [hgx i x hx]; rfl⟩) hq' h2 hw hl hR (hf.left k2.next) hG ht hd tape b d k cs
      obtain ⟨w2, β2, τ2, tr2, x2, l2, R2, ht2, s2⟩ := ih (a + g) hgs t1 t2 tr1 σ1 σ2 τ1 h1 β1 w1 (k1.wf hw) l1.like R1 (hf.right x1 k1.next) (hG.mono x1.1) ht1 listed' hd1 tape'
      exact ⟨w2, β2, τ2, tr2, x1.trans x2 k1.next k2.next, l1.trans l2 k2.next, R2, ht2, s1.trans s2⟩

theorem plan_run (H : Given P K W0 N0 G E rec) {l : List (Nat × Bool)} {gs : List Nat} (hP : planB md ops l gs = true) (hB : ∀ (j : Nat) (o : Oper), ops[j]? = some o → opB G o = true) {t t2 : List Value} {tr : Array Value} {σ σ2 τ : AS} (h1 : opsI P E rec ops lim l t σ = some (t2, σ2)) {β : Inj} {w : World}
    (hw : σ.Wf) (hl : σ.Like τ) (hR : R K W0 N0 β τ w) (hf : Fresh β σ σ2) (hG : GlobOk G β) (ht : lRel β t tr.toList) (tape : Nat) (b : Frame) (d : List Deferred) (k : List Item) (cs : List Frame) :
    ∃ w' β' τ' tr', Ext β β' σ σ2 ∧ σ2.Led τ τ' ∧ R K W0 N0 β' τ' w' ∧ lRel β' t2 tr'.toList ∧
      Steps P (lone (Fr b tr d (.inRegion ops (Region.linearise md ops tape) :: k)) cs w) (lone (Fr b tr' d (.inRegion ops [] :: k)) cs w') := by
  simp only [planB, Bool.and_eq_true] at hP
  have hO := ordB_spec hP.1
  have hd : Done md ops (l.map (·.1)) 0 (Array.replicate ops.size false) := ⟨by simp, fun j oj _ hj => (by rw [getD_replicate_false] at hj; cases hj), fun p hp => (by omega), fun p _ hp => (by simp [hO.lt p hp])⟩
  have := groups_run (lim := lim) H hO hB b d k cs gs 0 hP.2 t t2 tr σ σ2 τ (by simpa using h1) β w hw hl hR hf hG ht _ hd tape
  rw [Nat.sub_zero] at this
  exact this

/-! ## Blind operations run later -/

theorem operB_congr {o : Oper} {t t' : List Value} (h : ∀ x ∈ o.op.operands, ev t' x = ev t x) (lim : Nat) (σ : AS) : operB P E rec lim o t' σ = operB P E rec lim o t σ := by
  obtain ⟨dst, op, type, pos, after, guard⟩ := o
  have opt : ∀ (x : Option Operand), (∀ y, x = some y → y ∈ op.operands) → x.map (ev t') = x.map (ev t) := by
    intro x hx
    cases x with
    | none => rfl
    | some y => simp only [Option.map_some]; rw [h y (hx y rfl)]
  have ex : (∀ cs b, op ≠ .select cs b) → execOp (ev t') ⟨dst, op, type, pos, after, guard⟩ = execOp (ev t) ⟨dst, op, type, pos, after, guard⟩ := fun hs => execOp_congr ⟨dst, op, type, pos, after, guard⟩ hs h
  cases op
  case slice st x lo hi mx =>
    simp only [operB]
    rw [h x (by simp [Op.operands]), opt lo (by intro y hy; simp [Op.operands, hy]), opt hi (by intro y hy; simp [Op.operands, hy]), opt mx (by intro y hy; simp [Op.operands, hy])]
  case convert => simp only [operB]; rw [h _ (by simp [Op.operands])]
  case makeSlice st l c => rw [operB_makeSlice rfl, operB_makeSlice rfl, ex (fun _ _ h => by cases h)]
  case unOp => simp only [operB]; rw [h _ (by simp [Op.operands])]
  case nilCheck => simp only [operB]; rw [h _ (by simp [Op.operands])]
  case sliceToArrayPointer => simp only [operB]; rw [h _ (by simp [Op.operands])]
  case binOp bop bt x y g => simp only [operB]; rw [h x (by simp [Op.operands]), h y (by simp [Op.operands])]
  case call c =>
    obtain ⟨callee, args, argTypes⟩ := c
    have ea : args.toList.map (ev t') = args.toList.map (ev t) := List.map_congr_left fun x hx => h x (by simp [Op.operands, Call.operands]; exact .inr (by simpa using hx))
    have eb : args.map (ev t') = args.map (ev t) := by
      apply Array.toList_inj.1
      simpa using ea
    cases callee with
    | invoke => rfl
    | value f =>
      simp only [operB]
      rw [ea, h f (by simp [Op.operands, Call.operands])]
    | builtin b => cases b <;> simp only [operB, ea, eb]
  case select => rfl
  all_goals (simp only [operB]; rw [ex (fun _ _ hh => by cases hh)])

theorem lop_congr {o : Oper} {t t' : List Value} (h : ∀ x ∈ o.op.operands, ev t' x = ev t x) (lim : Nat) (σ : AS) : lop P E lim o t' σ = lop P E lim o t σ := by
  obtain ⟨dst, op, type, pos, after, guard⟩ := o
  have opt : ∀ (x : Option Operand), (∀ y, x = some y → y ∈ op.operands) → x.map (ev t') = x.map (ev t) := by
    intro x hx
    cases x with
    | none => rfl
    | some y => simp only [Option.map_some]; rw [h y (hx y rfl)]
  unfold lop
  cases op <;> dsimp only
  case indexAddr xt x i => rw [h x (by simp [Op.operands]), h i (by simp [Op.operands])]
  case load ty x => rw [h x (by simp [Op.operands])]
  case fieldAddr s x f => rw [h x (by simp [Op.operands])]
  case nilCheck x => rw [h x (by simp [Op.operands])]
  case extract x i => rw [h x (by simp [Op.operands])]
  case sliceToArrayPointer d x => rw [h x (by simp [Op.operands])]
  case slice st x lo hi mx =>
    rw [h x (by simp [Op.operands]), opt lo (by intro y hy; simp [Op.operands, hy]), opt hi (by intro y hy; simp [Op.operands, hy]), opt mx (by intro y hy; simp [Op.operands, hy])]
  case convert src dst' x => rw [h x (by simp [Op.operands])]
  case binOp bop bt x y g => rw [h x (by simp [Op.operands]), h y (by simp [Op.operands])]
  case buildSlice ty n ps =>
    have : (ps.map fun (i, x) => (i, ev t' x)) = ps.map fun (i, x) => (i, ev t x) := by
      apply Array.map_congr_left
      intro p hp
      obtain ⟨i, x⟩ := p
      dsimp only
      rw [h x (by simp [Op.operands]; exact ⟨i, by simpa using hp⟩)]
    rw [this]
  case call c =>
    obtain ⟨callee, args, argTypes⟩ := c
    have ea : args.toList.map (ev t') = args.toList.map (ev t) := List.map_congr_left fun x hx => h x (by simp [Op.operands, Call.operands]; exact .inr (by simpa using hx))
    rw [ea]

theorem operA_congr {o : Oper} {t t' : List Value} (h : ∀ x ∈ o.op.operands, ev t' x = ev t x) (lim : Nat) (σ : AS) : operA P E rec lim o t' σ = operA P E rec lim o t σ := by
  unfold operA
  rw [lop_congr h, operB_congr h]

end Go.Va
