/-
  SIMULATION: unsafe.Pointer and back; unsafe.SliceData, unsafe.String.
-/
import Derived.Test.YtakchekhpeokjaaDoorVaA14
import Derived.Lib.Builder
import Derived.Lib.UnsafeStr
namespace Go.Va
open Go.RowKit
section
variable {P : Program} {K : FuncId → Code → Prop} {W0 : World} {N0 : Nat}

theorem shape_of_heap {w : World} {b : Nat} {C : Array Value} {ty : TypeId} {fr : Nat × Nat} (h : w.heap[b]? = some (.cells C ty fr)) : w.shape? b = some (ty, C.size) := by
  simp [World.shape?, h]

theorem sim2_ptrConv {β : Inj} {src dst : TypeId} {a a' : Addr} (ha : aRel β a a') : Sim2 P K W0 N0 β (fun σ => ptrConv P src dst a σ) (convert src dst (.pointer (some a'))) := by
  intro σ w v σ' hw hR hr hf
  unfold ptrConv at hr
  obtain ⟨hsp, e, he, rfl⟩ := ha
  dsimp only at hr
  split at hr
  case h_2 => cases hr
  rename_i x hg
  cases hb0 : (a.spot.isNone && ptrOk P src dst a.off x) with
  | false => rw [hb0] at hr; cases hr
  | true =>
  rw [hb0, cond_true] at hr
  cases hr
  simp only [Bool.and_eq_true] at hb0
  have hok := hb0.2
  unfold ptrOk at hok
  split at hok
  case h_2 => cases hok
  rename_i c rw lo pv
  obtain ⟨C, ty, fr, hC, hc, _, htl, htt⟩ := hR.cells he hg
  have hshape := shape_of_heap hC
  split at hok
  · rename_i t hs hd
    split at hok
    case h_2 => cases hok
    rename_i j hj
    simp only [Bool.and_eq_true, Bool.not_eq_true'] at hok
    have h1 : j.size ≠ 0 := Nat.ne_of_beq_eq_false hok.1
    have h2 : a.off < c.length := blt_iff.1 hok.2
    obtain ⟨u, hu, _⟩ := hc a.off h2
    have h3 : e.o + a.off < C.size := (Array.getElem?_eq_some_iff.1 hu).1
    exact ⟨_, w, β, Lib.run_to_unsafe w ⟨e.b, e.o + a.off, none⟩ hs hd hj h1 hshape h3, .refl _ _, hR, .ptr ⟨hsp, e, he, rfl⟩⟩
  · rename_i u hs hd
    split at hok
    case h_2 => cases hok
    rename_i T
    simp only [Bool.and_eq_true] at hok
    obtain ⟨⟨h1, h2⟩, h3⟩ := hok
    have h1 : a.off = 0 := Nat.eq_of_beq_eq_true h1
    obtain ⟨j, hj⟩ := Option.isSome_iff_exists.1 h2
    obtain ⟨rfl, h4⟩ := htt T rfl
    obtain ⟨h5, h6⟩ := h4 rfl
    refine ⟨_, w, β, Lib.run_from_unsafe w ⟨e.b, e.o + a.off, none⟩ hs hd hj hshape ?_, .refl _ _, hR, .ptr ⟨hsp, e, he, rfl⟩⟩
    rw [h5, h1, h6]
    exact h3
  · cases hok

theorem one_arg {β : Inj} {x : Value} {args' : Array Value} (ha : lRel β [x] args'.toList) : ∃ x', args' = #[x'] ∧ vRel β x x' := by
  cases h : args'.toList with
  | nil => rw [h] at ha; exact ha.elim
  | cons y l =>
    rw [h] at ha
    cases l with
    | nil => exact ⟨y, by rw [← Array.toList_inj, h], ha.1⟩
    | cons _ _ => exact ha.2.elim
theorem two_args {β : Inj} {x y : Value} {args' : Array Value} (ha : lRel β [x, y] args'.toList) : ∃ x' y', args' = #[x', y'] ∧ vRel β x x' ∧ vRel β y y' := by
  cases h : args'.toList with
  | nil => rw [h] at ha; exact ha.elim
  | cons u l =>
    rw [h] at ha
    cases l with
    | nil => exact ha.2.elim
    | cons v m =>
      cases m with
      | nil => exact ⟨u, v, by rw [← Array.toList_inj, h], ha.1, ha.2.1⟩
      | cons _ _ => exact ha.2.2.elim

theorem sim2_data {β : Inj} {argTypes : Array TypeId} {ty : TypeId} {args : List Value} {args' : Array Value} (ha : lRel β args args'.toList) :
    Sim2 P K W0 N0 β (fun σ => dataA args σ) (Builtin.unsafeSliceData_ argTypes ty args') := by
  intro σ w v σ' hw hR hr hf
  unfold dataA at hr
  dsimp only at hr
  split at hr
  · cases hr
    obtain ⟨x', rfl, hx⟩ := one_arg ha
    cases hx
    exact ⟨_, w, β, rfl, .refl _ _, hR, .ptrNone⟩
  · rename_i a l c
    obtain ⟨x', rfl, hx⟩ := one_arg ha
    cases hb : (a.spot.isNone && !(Nat.beq c 0)) with
    | false => rw [hb] at hr; cases hr
    | true =>
      rw [hb, cond_true] at hr
      cases hr
      simp only [Bool.and_eq_true, Bool.not_eq_true', Option.isNone_iff_eq_none] at hb
      have h1 : c ≠ 0 := Nat.ne_of_beq_eq_false hb.2
      cases hx with
      | @slice _ a' _ c' _ h hc =>
        have h2 : c' ≠ 0 := by
          rcases hc with rfl | ⟨_, _, _, _, _, _, _, _, h3⟩
          · exact h1
          · omega
        exact ⟨_, w, β, Lib.run_unsafeSliceData_row w _ _ a' _ c' h2, .refl _ _, hR, .ptr h⟩
      | void a' c' h => rw [hb.1] at h; cases h
  · cases hr

theorem liesAt_bytes' {e : TypeId} (hc : P.cellsOf e = 1) (count off n : Nat) (hn : off + n ≤ count) : liesAt P P.depth e count off e n = true := by
  have hd : P.depth = (2 * (P.types.size + Made.depth) + 1) + 1 := rfl
  rw [hd]
  simp only [liesAt, Bool.or_eq_true]
  left
  rw [hd]
  simp [rowAt, hc, hn, sameLayout, Nat.mod_one]

theorem addr_add {b o i : Nat} : (⟨b, o, none⟩ : Addr).add i = ⟨b, o + i, none⟩ := by
  unfold Addr.add
  split
  · rename_i h; rw [h]; rfl
  · rfl

theorem run_loadBytes' {w : World} : ∀ (l : List UInt8) (vs : List Value) (b o : Nat) (acc : ByteArray), bytesOf vs = some l → (∀ j (h : j < vs.length), w.cell? ⟨b, o + j, none⟩ = some vs[j]) →
    (loadBytes ⟨b, o, none⟩ acc l.length).run P w = .ok ⟨acc.data ++ l.toArray⟩ w
  | l, [], b, o, acc, h, _ => by
    simp only [bytesOf, Option.some.injEq] at h
    subst h
    simp [loadBytes]
  | l, v :: vs, b, o, acc, h, hc => by
    unfold bytesOf at h
    split at h
    · cases ‹v :: vs = []›
    · rename_i x l' heq
      cases heq
      split at h
      · rename_i r hr
        cases h
        have h0 : w.cell? ⟨b, o, none⟩ = some (.int .u8 x) := hc 0 (by simp)
        have ih := run_loadBytes' r vs b (o + 1) (acc.push x.toNat.toUInt8) hr (fun j hj => by
          have := hc (j + 1) (by simpa using hj)
          rw [show o + 1 + j = o + (j + 1) by omega]; simpa using this)
        simp only [List.length_cons, loadBytes, Sem.run_bind, run_load, h0, Result.andThen, addr_add]
        rw [ih]
        congr 1
        apply ByteArray.ext
        simp [ByteArray.push]
      · cases h
    · cases h

theorem bytesOf_length : ∀ {vs : List Value} {l : List UInt8}, bytesOf vs = some l → l.length = vs.length
  | [], l, h => by simp only [bytesOf, Option.some.injEq] at h; subst h; rfl
  | v :: vs, l, h => by
    unfold bytesOf at h
    split at h
    · cases ‹v :: vs = []›
    · rename_i x l' heq
      cases heq
      split at h
      · rename_i r hr
        cases h
        simp [bytesOf_length hr]
      · cases h
    · cases h

theorem bytesOf_rel {β : Inj} : ∀ {vs : List Value} {l : List UInt8} {us : List Value}, bytesOf vs = some l → lRel β vs us → us = vs
  | [], l, us, h, hr => by cases us with
    | nil => rfl
    | cons _ _ => exact hr.elim
  | v :: vs, l, us, h, hr => by
    cases us with
    | nil => exact hr.elim
    | cons u us =>
      unfold bytesOf at h
      split at h
      · cases ‹v :: vs = []›
      · rename_i x l' heq
        cases heq
        split at h
        · rename_i r hr'
          have := bytesOf_rel hr' hr.2
          subst this
          have h1 := hr.1
          cases h1
          rfl
        · cases h
      · cases h

/-- Cells are frozen: of rows that are no longer written. -/
theorem R.freeze {β : Inj} {σ : AS} {w : World} (hR : R K W0 N0 β σ w) {e : Ent} (hN : N0 ≤ e.b) (o n : Nat) (h : ∀ id e' c lo pv, β id = some e' → σ.get id = some (.cells c true lo pv) → e'.b ≠ e.b)
    (ho : ∀ id e' x, β id = some e' → σ.get id = some (.obj x) → e'.b ≠ e.b) : R K W0 N0 β σ (w.freeze ⟨e.b, o, none⟩ n) := by
  by_cases hn : n = 0
  · unfold World.freeze; rw [if_pos hn]; exact hR
  have heap : ∀ r, (w.freeze ⟨e.b, o, none⟩ n).heap[r]? = if e.b = r then (w.heap[r]?).map (fun | .cells c elem (lo, hi) => .cells c elem (if lo == hi then (o, o + n) else (min lo o, max hi (o + n))) | x => x) else w.heap[r]? := by
    intro r
    unfold World.freeze
    rw [if_neg hn]
    simp only [Array.getElem?_modify]
    by_cases hr : e.b = r
    · rw [if_pos hr, if_pos hr]
      cases w.heap[r]? with
      | none => rfl
      | some x => cases x <;> rfl
    · rw [if_neg hr, if_neg hr]
  have size : (w.freeze ⟨e.b, o, none⟩ n).heap.size = w.heap.size := by
    unfold World.freeze; rw [if_neg hn]; simp
  constructor
  · intro id e' c rw' lo pv hb hg
    obtain ⟨C, ty, fr, k1, k2, k3, k4⟩ := hR.cells hb hg
    by_cases heq : e.b = e'.b
    · refine ⟨C, ty, _, by rw [heap, if_pos heq, k1]; rfl, k2, fun hrw => ?_, k4⟩
      subst hrw
      exact absurd heq.symm (h id e' c lo pv hb hg)
    · exact ⟨C, ty, fr, by rw [heap, if_neg heq]; exact k1, k2, k3, k4⟩
  · intro id e' x hb hg
    obtain ⟨k1, k2, o', k3, k4⟩ := hR.obj hb hg
    exact ⟨k1, k2, o', by rw [heap, if_neg (Ne.symm (ho id e' x hb hg))]; exact k3, k4⟩
  · exact hR.excl
  · intro id e' hb; rw [size]; exact hR.lt hb
  · exact Lib.below_freeze hR.base hN n
  · rw [size]; exact hR.top
  · exact hR.code

theorem sim2_ustr {β : Inj} {lim : Nat} {argTypes : Array TypeId} {ty : TypeId} {args : List Value} {args' : Array Value} (ha : lRel β args args'.toList) :
    Sim2 P K W0 N0 β (fun σ => ustrA P lim argTypes args σ) (Builtin.unsafeString_ argTypes ty args') := by
  intro σ w v σ' hw hR hr hf
  unfold ustrA at hr
  dsimp only at hr
  split at hr
  case h_2 => cases hr
  rename_i p k n
  obtain ⟨x', y', rfl, hx, hy⟩ := two_args ha
  cases hy
  obtain ⟨p', rfl⟩ : ∃ p', x' = .pointer p' := by cases hx <;> exact ⟨_, rfl⟩
  split at hr
  case h_2 => cases hr
  rename_i pt hpt
  have hmax : IntKind.i64.max = 9223372036854775807 := rfl
  have hdef : Builtin.unsafeString_ argTypes ty #[.pointer p', .int k n] =
      (do
        let n ← asInt (.int k n)
        let some pt := argTypes[0]? | stuck "unsafe.String: no argument types"
        if n < 0 then runtimePanic (.error "unsafe.String: len out of range")
        if n > IntKind.i64.max then unsupported (.unsafePointer "String: a length above the largest int")
        match p' with
        | none =>
          if n = 0 then pure (.string .empty)
          else runtimePanic (.error "unsafe.String: ptr is nil and len is not zero")
        | some a =>
          if n = 0 then pure (.string .empty)
          else if ← variablesAt a (← elemOf pt) n.toNat then do
            let s ← loadBytes a .empty n.toNat
            freeze a n.toNat
            pure (.string s)
          else unsupported (.unsafePointer "String: not so many bytes at ptr")) := rfl
  cases hz : decide (n = 0) with
  | true =>
    rw [hz, cond_true] at hr
    cases hr
    have h0 : n = 0 := of_decide_eq_true hz
    subst h0
    refine ⟨.string .empty, w, β, ?_, .refl _ _, hR, .string _⟩
    rw [hdef, hpt]
    cases p' <;> simp [asInt, asIntOf, hmax]
  | false =>
    rw [hz, cond_false] at hr
    have h0 : n ≠ 0 := of_decide_eq_false hz
    split at hr
    case h_2 => cases hr
    rename_i e0 a hpe
    cases hx with
    | @ptr _ a' haa =>
    obtain ⟨hsp, e, he, rfl⟩ := haa
    split at hr
    case h_2 => cases hr
    rename_i c lo pv _ hg
    cases hcnd : (lo.2 == some e0 && Nat.beq (P.cellsOf e0) 1 && decide (0 ≤ n) && Nat.ble (a.off + n.toNat) c.length && Nat.ble n.toNat 1099511627776 && Nat.ble lim a.block) with
    | false => rw [hcnd] at hr; cases hr
    | true =>
    rw [hcnd, cond_true] at hr
    simp only [Bool.and_eq_true, beq_iff_eq, decide_eq_true_eq] at hcnd
    obtain ⟨⟨⟨⟨⟨c1, c2⟩, c3⟩, c4⟩, c5⟩, _⟩ := hcnd
    have c2 : P.cellsOf e0 = 1 := Nat.eq_of_beq_eq_true c2
    have c4 : a.off + n.toNat ≤ c.length := Nat.ble_eq ▸ c4
    have c5 : n.toNat ≤ 1099511627776 := Nat.ble_eq ▸ c5
    split at hr
    case h_2 => cases hr
    rename_i s σ1 hs hk
    cases hr
    obtain ⟨C, tyC, fr, hC, hc, hrw, htl, htt⟩ := hR.cells he hg
    obtain ⟨hN, hfr⟩ := hrw rfl
    obtain ⟨rfl, _⟩ := htt e0 c1
    have hlen : s.length = n.toNat := by
      rw [bytesOf_length hs]; simp; omega
    have hcell : ∀ j (h : j < ((c.drop a.off).take n.toNat).length), w.cell? ⟨e.b, e.o + a.off + j, none⟩ = some ((c.drop a.off).take n.toNat)[j] := by
      intro j hj
      have hj' : j < n.toNat := by simp at hj; omega
      obtain ⟨u, hu, hur⟩ := hc (a.off + j) (by omega)
      rw [cell?_of_heap hC, Nat.add_assoc, hu]
      have hmem : ((c.drop a.off).take n.toNat)[j] = c[a.off + j] := by simp
      rw [hmem]
      have hb : ∃ x, c[a.off + j] = .int .u8 x := by
        have : ∀ {vs : List Value} {l : List UInt8}, bytesOf vs = some l → ∀ v ∈ vs, ∃ x, v = .int .u8 x := by
          intro vs
          induction vs with
          | nil => intro l _ v hv; cases hv
          | cons z zs ih =>
            intro l hl v hv
            unfold bytesOf at hl
            split at hl
            · cases ‹z :: zs = []›
            · rename_i x l' heq
              cases heq
              split at hl
              · rename_i r hr'
                rcases List.mem_cons.1 hv with rfl | hv
                · exact ⟨_, rfl⟩
                · exact ih hr' v hv
              · cases hl
            · cases hl
        exact this hs _ (by rw [← hmem]; exact List.getElem_mem hj)
      obtain ⟨x, hx⟩ := hb
      rw [hx] at hur ⊢
      cases hur
      rfl
    have hlies := liesAt_bytes' (P := P) c2 (C.size / P.cellsOf tyC) (e.o + a.off) n.toNat (by
      rw [c2, Nat.div_one]
      have hlast : a.off + n.toNat - 1 < c.length := by omega
      obtain ⟨u, hu, _⟩ := hc (a.off + n.toNat - 1) hlast
      have := (Array.getElem?_eq_some_iff.1 hu).1
      have hpos : 0 < n.toNat := by omega
      omega)
    have hload := run_loadBytes' (P := P) (w := w) s _ e.b (e.o + a.off) .empty hs hcell
    rw [hlen] at hload
    have hshape := shape_of_heap hC
    have hneg : ¬ n < 0 := by omega
    have hbig : ¬ (9223372036854775807 : Int) < n := by omega
    obtain ⟨k1, k2, k3⟩ := AS.kill_get hk
    have hget : ∀ j, (σ1.put a.block (some (.cells c false lo none))).get j = if j = a.block then some (.cells c false lo none) else if pv = some j then none else σ.get j := by
      intro j
      rw [AS.get_put]
      split
      · rfl
      · exact k2 j
    have hweak : R K W0 N0 β (σ1.put a.block (some (.cells c false lo none))) w := by
      refine hR.weaken fun j y hy => ?_
      rw [hget] at hy
      split at hy
      · rename_i hj; subst hj
        simp only [Option.some.injEq] at hy
        exact .inr ⟨c, true, lo, pv, hg, hy.symm⟩
      · split at hy
        · cases hy
        · exact .inl hy
    have hother : ∀ id e' y, β id = some e' → (σ1.put a.block (some (.cells c false lo none))).get id = some y → id ≠ a.block → e'.b ≠ e.b := by
      intro id e' y hb hy hid heq
      rw [hget, if_neg hid] at hy
      split at hy
      · cases hy
      · rename_i hp
        exact hp (hR.excl (Ne.symm hid) he hb hg hy rfl heq.symm)
    refine ⟨.string ⟨s.toArray⟩, w.freeze ⟨e.b, e.o + a.off, none⟩ n.toNat, β, ?_, ⟨.refl _, fun i e' h => .inl h⟩, hweak.freeze hN (e.o + a.off) n.toNat (fun id e' c' lo' pv' hb hy => ?_) (fun id e' x hb hy => ?_), .string _⟩
    · rw [hdef, hpt]
      simp [asInt, asIntOf, hmax, hbig, hneg, h0, variablesAt, hshape, elemOf, run_underlying hpe, hlies, hload]
    · by_cases hid : id = a.block
      · subst hid; rw [hget, if_pos rfl] at hy; cases hy
      · exact hother id e' _ hb hy hid
    · by_cases hid : id = a.block
      · subst hid; rw [hget, if_pos rfl] at hy; cases hy
      · exact hother id e' _ hb hy hid
end
end Go.Va
