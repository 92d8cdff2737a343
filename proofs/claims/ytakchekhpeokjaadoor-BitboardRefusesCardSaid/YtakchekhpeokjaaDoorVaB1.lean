/-
  SIMULATION: the groups of a region that draws its order, one behind the other.
-/
import Derived.Test.YtakchekhpeokjaaDoorVaA22
namespace Go.Va
open Go.RowKit
variable {P : Program} {K : FuncId → Code → Prop} {W0 : World} {N0 G : Nat} {E : Env} {rec : Rec} {ops : Array Oper} {md : Region.Mode} {os : List Nat} {fl : Nat → Bool} {lim a n : Nat}

def blindIx (ops : Array Oper) (i : Nat) : Bool := match ops[i]? with
  | some o => blindO o
  | none => false

/-- Just the operations before the place n are done. -/
def Done (md : Region.Mode) (ops : Array Oper) (os : List Nat) (n : Nat) (listed : Array Bool) : Prop := HeadO md ops os n n listed

theorem Done.head {listed : Array Bool} (h : Done md ops os a listed) (han : a ≤ n) : HeadO md ops os a n listed := ⟨h.size, h.closed, h.front, fun t ht => h.tail t (by omega)⟩

theorem group_any (H : Given P K W0 N0 G E rec) (hD : GroupOk md ops os a n) (han : a ≤ n) (hB : ∀ (j : Nat) (o : Oper), ops[j]? = some o → opB G o = true) {l : List (Nat × Bool)} (hlen : l.length = n - a) (hx : ∀ (i : Nat) (x : Nat × Bool), l[i]? = some x → x.1 = ix os (a + i) ∧ x.2 = fl (a + i))
    (hq : ∀ x ∈ l, x.2 = true ∨ blindIx ops x.1 = true) {t t1 : List Value} {tr : Array Value} {σ σ1 τ : AS} (h1 : opsI P E rec ops lim l t σ = some (t1, σ1)) {β : Inj} {w : World} (hw : σ.Wf) (hl : σ.Like τ) (hR : R K W0 N0 β τ w) (hf : Fresh β σ σ1) (hG : GlobOk G β)
    (ht : lRel β t tr.toList) {listed : Array Bool} (hd : Done md ops os a listed) (tape : Nat) (b : Frame) (d : List Deferred) (k : List Item) (cs : List Frame) :
    ∃ w' β' τ' tr' listed' tape', Ext β β' σ σ1 ∧ σ1.Led τ τ' ∧ R K W0 N0 β' τ' w' ∧ lRel β' t1 tr'.toList ∧ Done md ops os n listed' ∧
      Steps P (lone (Fr b tr d (.inRegion ops (Region.linearise.go md ops (ops.size - a) tape listed []) :: k)) cs w) (lone (Fr b tr' d (.inRegion ops (Region.linearise.go md ops (ops.size - n) tape' listed' []) :: k)) cs w') := by
  have hle := hD.le
  have hlen' := hD.len
  have han' : a + l.length = n := by omega
  obtain ⟨T, S, V, rfl, rfl, e3, e4, hst⟩ := exists_run (os := os) (fl := fl) l a t σ t1 σ1 hx h1
  rw [han'] at e3 e4 hst
  subst e3 e4
  have hP : Pre md P E rec ops os fl lim a n T S V := by
    have wf : ∀ j, a ≤ j → j ≤ n → (S j).Wf := by
      intro j
      induction j with
      | zero => intro h _; have : a = 0 := by omega
                subst this; exact hw
      | succ j ih =>
        intro haj hj
        by_cases h : a = j + 1
        · rw [← h]; exact hw
        · obtain ⟨o, g1, g2, g3⟩ := hst j (by omega) (by omega)
          exact ((good_op1 H.ovGood H.good) _ _ _ g2 (ih (by omega) (by omega))).1.wf (ih (by omega) (by omega))
    refine ⟨hD, hst, fun j haj hj => ?_, han, hw⟩
    obtain ⟨o, g1, g2, g3⟩ := hst j haj hj
    have hjl : j - a < l.length := by omega
    obtain ⟨hx1, hx2⟩ := hx (j - a) l[j - a] (List.getElem?_eq_getElem hjl)
    rw [show a + (j - a) = j by omega] at hx1 hx2
    rcases hq l[j - a] (by simp) with h | h
    · rw [← hx2, h] at g2
      exact quiet_op1 H.ovGood H.good g2 (wf j haj (by omega))
    · unfold blindIx at h
      rw [hx1, g1] at h
      rw [(blind_op1 h g2).1]
      exact .refl _ _
  obtain ⟨_, hwn, getn⟩ := hP.heaps a (Nat.le_refl _) n han (Nat.le_refl _) hw
  have kn := ((good_opsI H.ovGood H.good (P := P) (lim := lim) (ops := ops) l (T a)) (S a) (T n) (S n) h1 hw)
  obtain ⟨τn, _, ln⟩ := kn.2 τ hl
  have hτ : ∀ i, i < (S n).next → τn.get i = (S n).get i := ln.below
  have inv0 : Inv md K W0 N0 ops os a n T S V τn β β listed tr w := by
    refine ⟨hd.head han, ⟨.refl _, fun _ _ h => .inl h⟩, fun j haj hj _ i h3 h4 => ?_, hR.dom fun i e he => ?_, ?_, fun x _ => ht.look x, fun j haj hj hl' => ?_⟩
    · have n1 := hP.nexts (i := a) (j := j) (Nat.le_refl _) haj (by omega)
      have n2 := hP.nexts (i := j + 1) (j := n) (by omega) (by omega) (Nat.le_refl _)
      exact hf i (by omega) (by omega)
    · rcases Nat.lt_or_ge i (S a).next with h | h
      · rw [ln.below i (by have := kn.1.next; omega), getn i h, hl.2 i h]
      · rcases Nat.lt_or_ge i (S n).next with h' | h'
        · rw [hf i h h'] at he; cases he
        · exact ln.above i h'
    · have := ht.length; simp only [Array.length_toList] at this; omega
    · rw [getD_both (hd.tail j haj (by omega))] at hl'; cases hl'
  obtain ⟨w1, β1, tr1, listed', t', inv, hall, s1⟩ := Inv.all H hP hB hτ hG b d k cs (n - a) (List.range' a (n - a)) listed tr w β tape (by simp) List.nodup_range' (fun j => by
    rw [mem_range'_iff han]
    constructor
    · intro hj; exact ⟨hj, hd.tail j hj.1 (by omega)⟩
    · rintro ⟨hj, _⟩; exact hj) inv0
  have htn : lRel β1 (T n) tr1.toList := by
    have hsz := inv.size
    have hln := hP.len n han (Nat.le_refl _)
    refine lRel.of_get (by rw [hln, ← hsz]; simp) fun x hx hx' => ?_
    have hx0 : x < (T a).length := by rw [hln] at hx; exact hx
    have hxs : x < tr1.size := by simpa using hx'
    show vRel β1 (T n)[x] tr1[x]
    by_cases hk : ∃ k, a ≤ k ∧ k < n ∧ dstOf ops (ix os k) = some x
    · obtain ⟨k, hak, hk, hd⟩ := hk
      obtain ⟨v', e1, e2⟩ := inv.new k hak hk (hall k hk) x hd hx0
      have e3 := hP.val x hak hd hx0 n hk (Nat.le_refl _)
      rw [List.getElem?_eq_getElem hx, Option.some.injEq] at e3
      rw [Array.getElem?_eq_getElem hxs, Option.some.injEq] at e1
      rw [e3, e1]; exact e2
    · have hno : ∀ k, a ≤ k → k < n → dstOf ops (ix os k) ≠ some x := fun k h0 h1 h2 => hk ⟨k, h0, h1, h2⟩
      have e3 := hP.same x n han (Nat.le_refl _) hno
      rcases inv.old x hno with ⟨e1, _⟩ | ⟨v, v', e1, e2, e4⟩
      · rw [List.getElem?_eq_getElem hx0] at e1; cases e1
      · rw [e1, List.getElem?_eq_getElem hx, Option.some.injEq] at e3
        rw [Array.getElem?_eq_getElem hxs, Option.some.injEq] at e2
        rw [e3, e2]; exact e4
  refine ⟨w1, β1, τn, tr1, listed', t', inv.ext, ln, inv.rel, htn, ⟨inv.head.size, inv.head.closed, hall, inv.head.tail⟩, ?_⟩
  rw [show n - a + (ops.size - n) = ops.size - a by omega] at s1
  exact s1

theorem group_one (H : Given P K W0 N0 G E rec) (hD : GroupOk md ops os a (a + 1)) (hB : ∀ (j : Nat) (o : Oper), ops[j]? = some o → opB G o = true) {x : Nat × Bool} (hx : x.1 = ix os a) {t t1 : List Value} {tr : Array Value} {σ σ1 τ : AS}
    (h1 : opsI P E rec ops lim [x] t σ = some (t1, σ1)) {β : Inj} {w : World} (hw : σ.Wf) (hl : σ.Like τ) (hR : R K W0 N0 β τ w) (hf : Fresh β σ σ1) (hG : GlobOk G β)
    (ht : lRel β t tr.toList) {listed : Array Bool} (hd : Done md ops os a listed) (tape : Nat) (b : Frame) (d : List Deferred) (k : List Item) (cs : List Frame) :
    ∃ w' β' τ' tr' listed' tape', Ext β β' σ σ1 ∧ σ1.Led τ τ' ∧ R K W0 N0 β' τ' w' ∧ lRel β' t1 tr'.toList ∧ Done md ops os (a + 1) listed' ∧
      Steps P (lone (Fr b tr d (.inRegion ops (Region.linearise.go md ops (ops.size - a) tape listed []) :: k)) cs w) (lone (Fr b tr' d (.inRegion ops (Region.linearise.go md ops (ops.size - (a + 1)) tape' listed' []) :: k)) cs w') := by
  have hle := hD.le
  have has : ix os a < ops.size := hD.lt a (by omega)
  have har : ix os a ∈ Region.ready md ops listed := by
    refine mem_ready.2 ⟨hd.tail a (Nat.le_refl _) (by omega), ops[ix os a], Array.getElem?_eq_getElem has, fun e he hb => ?_⟩
    obtain ⟨q, hq, heq⟩ := hD.back a ops[ix os a] (by omega) (Array.getElem?_eq_getElem has) e he hb
    rw [heq]; exact hd.front q hq
  obtain ⟨i0, t', hi, hgo⟩ := go_step (fuel := ops.size - (a + 1)) (t := tape) (listed := listed) (by intro h; rw [h] at har; cases har)
  obtain ⟨hun, o, ho, hall⟩ := mem_ready.1 hi
  have his : i0 < ops.size := (Array.getElem?_eq_some_iff.1 ho).1
  obtain ⟨i, hips, rfl⟩ := hD.surj i0 his
  have hia : i = a := by
    rcases Nat.lt_trichotomy i a with h | h | h
    · have h3 := hd.front i h
      rw [getD_both hun] at h3; cases h3
    · exact h
    · exact absurd hi (tail_waitsO hD (hd.head (by omega)) _ a rfl (Nat.le_refl _) (by omega) (hd.tail a (Nat.le_refl _) (by omega)) i (by omega) hips)
  subst hia
  rw [opsI_cons, hx, ho] at h1
  dsimp only at h1
  cases h2 : op1 P E rec ops x.2 lim o t σ with
  | none => rw [h2] at h1; cases h1
  | some r =>
    obtain ⟨v, σ'⟩ := r
    rw [h2] at h1
    have h1 : some (putT t o.dst v, σ') = some (t1, σ1) := h1
    simp only [Option.some.injEq, Prod.mk.injEq] at h1
    obtain ⟨rfl, rfl⟩ := h1
    obtain ⟨v', w', ⟨β', τ', x1, l1, R1, hv⟩, s1⟩ := op_steps H ho h2 (hB _ o ho) hw hl hR hf hG (fun d _ => ht.look d) b d (Region.linearise.go md ops (ops.size - (i + 1)) t' (listed.setIfInBounds (ix os i) true) []) k cs
    have hset := HeadO.set (hd.head (n := i + 1) (by omega)) hD hi (by omega)
    refine ⟨w', β', τ', putA tr o.dst v', listed.setIfInBounds (ix os i) true, t', x1, l1, R1, lRel_putT (ht.mono x1.1) hv o.dst, ⟨hset.size, hset.closed, fun p hp => ?_, hset.tail⟩, ?_⟩
    · by_cases hpi : p = i
      · subst hpi
        have : ix os p < listed.size := by rw [hd.size]; exact his
        simp [this]
      · exact hset.front p (by omega)
    · rw [show ops.size - i = ops.size - (i + 1) + 1 by omega, hgo]
      exact s1

end Go.Va
