/-
  PIECES OF CODE, ONE AFTER THE OTHER: what holds of the machine before, in the words of an abstract heap, and behind. Loops by induction, with the heap chosen anew.
-/
import Derived.Test.YtakchekhpeokjaaDoorVaT1
namespace Go.Va
open Go.RowKit
section
variable {P : Program} {G : Nat} {E : Env} {W0 : World} {N0 : Nat}

/-- The heap holds what the abstract heap says; the numbers up to M are free. -/
structure Hold (G : Nat) (E : Env) (W0 : World) (N0 M : Nat) (β : Inj) (τ σ : AS) (w : World) : Prop where
  rel : R (CodeK G E) W0 N0 β τ w
  wf : σ.Wf
  like : σ.Like τ
  glob : GlobOk G β
  free : ∀ i, σ.next ≤ i → i < M → β i = none

abbrev Aft := Ex → List Value → List Nat → AS → Prop

def Tri (P : Program) (G : Nat) (E : Env) (W0 : World) (N0 M : Nat) (fn : FuncId) (c : Code) (t : List Value) (ds : List Nat) (σ : AS) (Q : Aft) : Prop :=
  ∀ β τ w (tr : Array Value) (dr : List Deferred) (b : Frame), Hold G E W0 N0 M β τ σ w → lRel β t tr.toList → dRel β ds dr → b.fn = fn → b.roundOf = none →
    ∀ (it : Item), (it = .code c ∨ ∃ body, c = .loop body ∧ it = .inLoop body) → ∀ k cs,
    ∃ e t1 ds1 σ1 β' τ' w' tr' dr' k', Q e t1 ds1 σ1 ∧ Hold G E W0 N0 M β' τ' σ1 w' ∧ lRel β' t1 tr'.toList ∧ dRel β' ds1 dr' ∧ Lead e k k' ∧ Steps P (lone (Fr b tr dr (it :: k)) cs w) (lone (Fr b tr' dr' k') cs w')

variable {M : Nat} {fn : FuncId}

theorem Tri.conseq {c : Code} {t : List Value} {ds : List Nat} {σ : AS} {Q Q' : Aft} (h : Tri P G E W0 N0 M fn c t ds σ Q) (hq : ∀ e t1 ds1 σ1, Q e t1 ds1 σ1 → Q' e t1 ds1 σ1) : Tri P G E W0 N0 M fn c t ds σ Q' := by
  intro β τ w tr dr b hH ht hd hb hr it hit k cs
  obtain ⟨e, t1, ds1, σ1, β', τ', w', tr', dr', k', h1, h2⟩ := h β τ w tr dr b hH ht hd hb hr it hit k cs
  exact ⟨e, t1, ds1, σ1, β', τ', w', tr', dr', k', hq _ _ _ _ h1, h2⟩

/-- What the interpreter answers, holds. -/
theorem Tri.of_run (hZ : ZeroOk P) (hM : P.follows .mixedOrders = true) (hG : OvGood E) (hO : OvOk P (CodeK G E) W0 N0 G E) (hFn : FnOk P G E) {lim : Nat} {c : Code} {t t1 : List Value} {ds ds1 : List Nat} {σ σ1 : AS} {e : Ex} {Q : Aft}
    (hr : runW P E lim (.code ⟨fn, none⟩ c t ds) σ = some (.done e t1 ds1, σ1)) (hn : σ1.next ≤ M) (hc : codeB G E fn c = true) (hq : Q e t1 ds1 σ1) : Tri P G E W0 N0 M fn c t ds σ Q := by
  intro β τ w tr dr b hH ht hd hb hrd it hit k cs
  obtain ⟨n, hn'⟩ := runW_some hr
  have hS := (sound (W0 := W0) (N0 := N0) hZ hM hG hO hFn n).2.2.1
  have kept := (good_run hG n _ _ _ _ _ hn' hH.wf).1
  obtain ⟨e', t1', ds1', heq, w', β', τ', tr', dr', k', x1, l1, R1, ht1, hd1, hk, s⟩ := hS lim ⟨fn, none⟩ c t ds σ _ σ1 hn' hc β τ w tr dr b hH.wf hH.like hH.rel (fun i h1 h2 => hH.free i h1 (by omega)) hH.glob ht hd hb (by rw [hrd]; trivial) it hit k cs
  cases heq
  refine ⟨e, t1, ds1, σ1, β', τ', w', tr', dr', k', hq, ⟨R1, kept.wf hH.wf, l1.like, hH.glob.mono x1.1, fun i h1 h2 => ?_⟩, ht1, hd1, hk, s⟩
  cases hbi : β' i with
  | none => rfl
  | some e0 =>
    rcases x1.2 i e0 hbi with h3 | h3
    · have := kept.next
      rw [hH.free i (by omega) h2] at h3; cases h3
    · omega

theorem Tri.seq {a c : Code} {t : List Value} {ds : List Nat} {σ : AS} {Qa Q : Aft} (ha : Tri P G E W0 N0 M fn a t ds σ Qa)
    (hc : ∀ t1 ds1 σ1, Qa .normal t1 ds1 σ1 → Tri P G E W0 N0 M fn c t1 ds1 σ1 Q) (hq : ∀ e t1 ds1 σ1, e ≠ .normal → Qa e t1 ds1 σ1 → Q e t1 ds1 σ1) : Tri P G E W0 N0 M fn (.seq a c) t ds σ Q := by
  intro β τ w tr dr b hH ht hd hb hr it hit k cs
  rcases hit with rfl | ⟨_, h, _⟩
  · obtain ⟨e, t1, ds1, σ1, β1, τ1, w1, tr1, dr1, k1, h1, h2, h3, h4, h5, h6⟩ := ha β τ w tr dr b hH ht hd hb hr _ (.inl rfl) (.code c :: k) cs
    by_cases hn : e = .normal
    · subst hn
      have h5 : k1 = .code c :: k := h5
      subst h5
      obtain ⟨e2, t2, ds2, σ2, β2, τ2, w2, tr2, dr2, k2, g1, g2, g3, g4, g5, g6⟩ := hc t1 ds1 σ1 h1 β1 τ1 w1 tr1 dr1 b h2 h3 h4 hb hr _ (.inl rfl) k cs
      exact ⟨e2, t2, ds2, σ2, β2, τ2, w2, tr2, dr2, k2, g1, g2, g3, g4, g5, .head st_seq (h6.trans g6)⟩
    · exact ⟨e, t1, ds1, σ1, β1, τ1, w1, tr1, dr1, k1, hq _ _ _ _ hn h1, h2, h3, h4, h5.drop (fun _ => rfl) (fun _ => rfl) hn, .head st_seq h6⟩
  · cases h

/-- An end inside a block, seen from without. -/
def unblock (id : Nat) : Ex → Ex
  | .exit id' => bif Nat.beq id' id then .normal else .exit id'
  | e => e

theorem Tri.block {id : Nat} {c : Code} {t : List Value} {ds : List Nat} {σ : AS} {Q : Aft} (h : Tri P G E W0 N0 M fn c t ds σ fun e t1 ds1 σ1 => Q (unblock id e) t1 ds1 σ1) : Tri P G E W0 N0 M fn (.block id c) t ds σ Q := by
  intro β τ w tr dr b hH ht hd hb hr it hit k cs
  rcases hit with rfl | ⟨_, h, _⟩
  · obtain ⟨e, t1, ds1, σ1, β1, τ1, w1, tr1, dr1, k1, h1, h2, h3, h4, h5, h6⟩ := h β τ w tr dr b hH ht hd hb hr _ (.inl rfl) (.inBlock id :: k) cs
    have fin : ∃ k2, Lead (unblock id e) k k2 ∧ Steps P (lone (Fr b tr1 dr1 k1) cs w1) (lone (Fr b tr1 dr1 k2) cs w1) := by
      cases e with
      | normal => exact ⟨k, rfl, by rw [show k1 = .inBlock id :: k from h5]; exact .one st_inBlock⟩
      | ret => exact ⟨k1, h5, .refl _ _⟩
      | goto l => obtain ⟨pre, h7, h8⟩ := h5; exact ⟨k1, ⟨pre, h7, h8⟩, .refl _ _⟩
      | exit id' =>
        obtain ⟨pre, rfl, h8⟩ := h5
        simp only [exitTo] at h8
        simp only [unblock]
        cases hbe : Nat.beq id' id with
        | true =>
          have : id' = id := Nat.eq_of_beq_eq_true hbe
          subst this
          rw [if_pos (by simp)] at h8
          exact ⟨k, rfl, .one (st_exit h8)⟩
        | false =>
          have : id' ≠ id := Nat.ne_of_beq_eq_false hbe
          rw [if_neg (by simp; omega)] at h8
          exact ⟨_, ⟨pre, rfl, h8⟩, .refl _ _⟩
    obtain ⟨k2, h7, h8⟩ := fin
    exact ⟨_, t1, ds1, σ1, β1, τ1, w1, tr1, dr1, k2, h1, h2, h3, h4, h7, .head st_block (h6.trans h8)⟩
  · cases h

theorem Tri.loop {c : Code} {t : List Value} {ds : List Nat} {σ : AS} {Qa Q : Aft} (ha : Tri P G E W0 N0 M fn c t ds σ Qa)
    (hc : ∀ t1 ds1 σ1, Qa .normal t1 ds1 σ1 → Tri P G E W0 N0 M fn (.loop c) t1 ds1 σ1 Q) (hq : ∀ e t1 ds1 σ1, e ≠ .normal → Qa e t1 ds1 σ1 → Q e t1 ds1 σ1) : Tri P G E W0 N0 M fn (.loop c) t ds σ Q := by
  intro β τ w tr dr b hH ht hd hb hr it hit k cs
  have hst : Steps P (lone (Fr b tr dr (it :: k)) cs w) (lone (Fr b tr dr (.code c :: .inLoop c :: k)) cs w) := by
    rcases hit with rfl | ⟨_, h, rfl⟩
    · exact .one st_loop
    · cases h; exact .one st_inLoop
  obtain ⟨e, t1, ds1, σ1, β1, τ1, w1, tr1, dr1, k1, h1, h2, h3, h4, h5, h6⟩ := ha β τ w tr dr b hH ht hd hb hr _ (.inl rfl) (.inLoop c :: k) cs
  by_cases hn : e = .normal
  · subst hn
    have h5 : k1 = .inLoop c :: k := h5
    subst h5
    obtain ⟨e2, t2, ds2, σ2, β2, τ2, w2, tr2, dr2, k2, g1, g2, g3, g4, g5, g6⟩ := hc t1 ds1 σ1 h1 β1 τ1 w1 tr1 dr1 b h2 h3 h4 hb hr (.inLoop c) (.inr ⟨c, rfl, rfl⟩) k cs
    exact ⟨e2, t2, ds2, σ2, β2, τ2, w2, tr2, dr2, k2, g1, g2, g3, g4, g5, hst.trans (h6.trans g6)⟩
  · exact ⟨e, t1, ds1, σ1, β1, τ1, w1, tr1, dr1, k1, hq _ _ _ _ hn h1, h2, h3, h4, h5.drop (fun _ => rfl) (fun _ => rfl) hn, hst.trans h6⟩

theorem Tri.cond {v : Operand} {a c : Code} {t : List Value} {ds : List Nat} {σ : AS} {Q : Aft} (b' : Bool) (hv : ev t v = .bool b') (ho : okO G v = true) (h : Tri P G E W0 N0 M fn (bif b' then a else c) t ds σ Q) : Tri P G E W0 N0 M fn (.cond v a c) t ds σ Q := by
  intro β τ w tr dr b hH ht hd hb hr it hit k cs
  rcases hit with rfl | ⟨_, h, _⟩
  · have hv1 := ev_rel hH.glob ht ho
    rw [hv] at hv1
    have hv2 : evA tr v = .bool b' := by
      generalize evA tr v = u at hv1
      cases hv1; rfl
    obtain ⟨e, t1, ds1, σ1, β1, τ1, w1, tr1, dr1, k1, h1, h2, h3, h4, h5, h6⟩ := h β τ w tr dr b hH ht hd hb hr _ (.inl rfl) k cs
    exact ⟨e, t1, ds1, σ1, β1, τ1, w1, tr1, dr1, k1, h1, h2, h3, h4, h5, .head (st_cond hv2) h6⟩
  · cases h

/-- The abstract heap is chosen anew. -/
theorem Tri.rebase {c : Code} {t : List Value} {σ σh : AS} {Q : Aft} (s : Reb) (hs : s.n = σh.next) (hsM : s.M = M) (m : Nat) (hm : t.length = m) (fx : List (Nat × Value)) (hf : ∀ x ∈ fx, ∃ u, t[x.1]? = some u ∧ ValRen s u x.2) (hwf : σh.Wf)
    (hn : G ≤ s.n) (hg : ∀ g, g < G → s.src g = g) (ho : ∀ j x, j < s.n → σh.get j = some x → s.src j < σ.next ∧ ∃ y, σ.get (s.src j) = some y ∧ ObjRen s y x)
    (he : ∀ i j x z y, i < s.n → j < s.n → i ≠ j → σh.get i = some x → σh.get j = some z → x.own = true → σ.get (s.src i) = some y → s.src i ≠ s.src j ∧ (prevOf y = some (s.src j) → prevOf x = some j))
    (h : ∀ w, Tri P G E W0 N0 M fn c (fillT m fx w) [] σh Q) : Tri P G E W0 N0 M fn c t [] σ Q := by
  intro β τ w tr dr b hH ht hd hb hr it hit k cs
  have hd0 : dr = [] := by
    cases dr with
    | nil => rfl
    | cons _ _ => exact hd.elim
  subst hd0
  obtain ⟨w', hw'⟩ := lRel_rebase s ht m hm fx hf
  have hR : R (CodeK G E) W0 N0 (s.app β) σh w := by
    refine hH.rel.rebase s (fun j hj => hwf.beyond j (by omega)) (fun j x hj hx => ?_) (fun i j x z y hi hj hij hx hz hown hy => ?_)
    · obtain ⟨h1, y, hy, hren⟩ := ho j x hj hx
      exact ⟨y, by rw [hH.like.2 _ h1]; exact hy, hren⟩
    · obtain ⟨h1, _⟩ := ho i x hi hx
      exact he i j x z y hi hj hij hx hz hown (by rw [← hH.like.2 _ h1]; exact hy)
  exact h w' (s.app β) σh w tr [] b ⟨hR, hwf, ⟨rfl, fun _ _ => rfl⟩, fun g hgl => by rw [s.app_low β (by omega), hg g hgl]; exact hH.glob g hgl, fun i h1 h2 => s.app_gap β (by omega) (by omega)⟩ hw' trivial hb hr it hit k cs

end
end Go.Va
