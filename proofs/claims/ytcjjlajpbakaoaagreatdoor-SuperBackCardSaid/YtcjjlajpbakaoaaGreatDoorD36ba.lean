/-
  SUPERBLOCK (chapter 36): what stands for a slice of bytes at the start.
-/
import Derived.Test.YtcjjlajpbakaoaaGreatDoorD36e
import Derived.Test.YtcjjlajpbakaoaaGreatDoorVap5
namespace Go.Proofs.YtcjjlajpbakaoaaGreatDoor
open Go.Va

/-- A pure function is called so, where lists stand among its arguments. -/
theorem callsR {P : Program} {G : Nat} {tabs : List (Nat × List Value)} {f : FuncId} {args : List Value} {v : Value} (h : Pure P G tabs f args v) (hpv : plainB 100 v = true) {fn : Func} (hfn : P.funcs[f]? = some fn) (hb : fn.body.isNone = false) (hname : (fn.name == "runtime.NumGoroutine") = false) {w : World} (hT : Tabs G tabs w)
    {z : Nat → Nat → Option ZC} (hz : Go.Va.Rest z w) {args' : Array Value} (ha : lRel (inj1 G z w.heap.size) args args'.toList) : Calls P f args' w fun e w' => e = .returned v ∧ RowKit.Below w.heap.size w w' := by
  have hcall : (callFunc f args').run P w = .ok (.enter f args') w := by
    unfold callFunc
    rw [run_bind']
    show (match P.funcs[f]? with | none => _ | some fn => _ : Sem Next).run P w = _
    rw [hfn]
    simp only [hname, Bool.false_eq_true, if_false, hb]
    rfl
  cases h.2 w hT z hz args' ha with
  | value h1 => rw [hcall] at h1; cases h1
  | skip h1 => rw [hcall] at h1; cases h1
  | row h1 => rw [hcall] at h1; cases h1
  | round h1 => rw [hcall] at h1; cases h1
  | enter h1 q =>
    rw [hcall] at h1
    cases h1
    intro cs
    obtain ⟨e, w', fr, ⟨v', rfl, hb, z', _, _, hv⟩, r⟩ := q cs
    exact ⟨_, w', fr, ⟨by rw [plain_eq 100 v v' hpv hv], hb⟩, r⟩

/-- The cells of a row of bytes, at rest. -/
def zoneB (b o : Nat) (l : List UInt8) (b' j : Nat) : Option ZC := if b' = b ∧ o ≤ j then (l[j - o]?).map fun n => ⟨.int .u8 n.toNat, none⟩ else none
theorem zoneB_rest {w : World} {b o : Nat} {l : List UInt8} (h : ∀ i (hi : i < l.length), w.cell? ⟨b, o + i, none⟩ = some (.int .u8 l[i].toNat)) : Go.Va.Rest (zoneB b o l) w where
  zone := fun {b' j c} hc => by
    unfold zoneB at hc
    split at hc
    · rename_i hbj
      obtain ⟨rfl, hoj⟩ := hbj
      obtain ⟨n, hn, rfl⟩ := Option.map_eq_some_iff.1 hc
      obtain ⟨hlt, rfl⟩ := List.getElem?_eq_some_iff.1 hn
      have := h (j - o) hlt
      rw [show o + (j - o) = j by omega] at this
      unfold World.cell? at this
      dsimp only at this
      cases hh : w.heap[b']? with
      | none => rw [hh] at this; cases this
      | some x =>
        cases x with
        | cells C ty fr => rw [hh] at this; exact ⟨C, ty, fr, rfl, this⟩
        | _ => rw [hh] at this; cases this
    · cases hc
  tags := fun {b' j v T k real} hc => by
    unfold zoneB at hc
    split at hc
    · obtain ⟨n, _, e⟩ := Option.map_eq_some_iff.1 hc
      cases e
    · cases hc
theorem zone_bys {G n : Nat} {b o : Nat} {l : List UInt8} {cap : Nat} (hc : l.length ≤ cap) : vRel (inj1 G (zoneB b o l) n) (L (bys l) l.length 1 0) (.slice (some ⟨b, o, none⟩) l.length cap) := by
  have hsz : (⟨bys l⟩ : Array Value).size = l.length := by show (bys l).length = _; unfold bys; simp
  have hget : ∀ i (hi : i < (⟨bys l⟩ : Array Value).size), (⟨bys l⟩ : Array Value)[i] = .int .u8 (l[i]'(by rw [← hsz]; exact hi)).toNat := fun i hi => by
    have hl : i < (l.map fun n : UInt8 => Value.int .u8 n.toNat).length := by rw [List.length_map, ← hsz]; exact hi
    have := List.getElem_map (fun n : UInt8 => Value.int .u8 n.toNat) (l := l) (i := i) (h := hl)
    exact this
  refine vRel.lst (cs := ⟨bys l⟩) (cs' := ⟨bys l⟩) rfl (by rw [hsz, Nat.mul_one]) (fun i hi => ⟨none, ?_⟩) (fun i hi => ?_) (fun i hi _ => ?_) hc trivial
  · have hi' : i < l.length := by rw [← hsz]; exact hi
    show (if b = b ∧ o ≤ o + i then (l[o + i - o]?).map fun n => (⟨.int .u8 n.toNat, none⟩ : ZC) else none) = _
    rw [if_pos ⟨rfl, by omega⟩, show o + i - o = i by omega, List.getElem?_eq_getElem hi', hget i hi]
    rfl
  · rw [hget i hi]; exact ⟨rfl, .int _ _⟩
  · rw [hget i hi]; exact .int _ _
theorem below_cell {W W' : World} (hg : RowKit.Below W.heap.size W W') {a : Addr} {v : Value} (h : W.cell? a = some v) : W'.cell? a = some v := by
  unfold World.cell? at h ⊢
  cases hh : W.heap[a.block]? with
  | none => rw [hh] at h; cases hs : a.spot <;> rw [hs] at h <;> cases h
  | some x =>
    have hlt : a.block < W.heap.size := (Array.getElem?_eq_some_iff.1 hh).1
    rw [hg.block _ hlt]
    exact h
theorem cells5 : Tryz.prog.cellsOf 5 = 1 := by kernel_rfl
/-- The bytes that some numbers are. -/
def byL (es : List Int) : List UInt8 := es.map fun n => n.toNat.toUInt8
theorem byL_get {es : List Int} (hw : ∀ n ∈ es, (Lit.int .u8 n).wf = true) {i : Nat} (hi : i < (byL es).length) : ((byL es)[i].toNat : Int) = es.getD i 0 := by
  have hi' : i < es.length := by unfold byL at hi; simpa using hi
  have h := hw es[i] (List.getElem_mem hi')
  simp only [Lit.wf, Bool.and_eq_true, decide_eq_true_eq] at h
  have h1 : (0 : Int) ≤ es[i] := h.1
  have h2 : es[i] ≤ 255 := h.2
  have e : (byL es)[i] = es[i].toNat.toUInt8 := by unfold byL; simp
  rw [e, List.getD_eq_getElem?_getD, List.getElem?_eq_getElem hi']
  show ((es[i].toNat.toUInt8.toNat : Nat) : Int) = es[i]
  rw [show es[i].toNat.toUInt8.toNat = es[i].toNat % 256 from by simp]
  omega

end Go.Proofs.YtcjjlajpbakaoaaGreatDoor
