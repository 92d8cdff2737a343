/-
  SUPERBLOCK (chapter 36): many cells of a row are written; sector.Tear.
-/
import Derived.Test.YtcjjlajpbakaoaaGreatDoorD36aw
import Derived.Test.YtcjjlajpbakaoaaGreatDoorVap4
namespace Go.Va
theorem Tr.sl0 {α : Type} {f k : Nat} {x : Option α} (h : Nat.beq k 0 = true) : (Tr.leaf : Tr α).setF (f + 1) k x = .node x .leaf .leaf := by
  show cond (Nat.beq k 0) _ _ = _
  rw [h]; rfl
theorem Tr.sl1 {α : Type} {f k : Nat} {x : Option α} (h : Nat.beq k 0 = false) (h2 : Nat.beq (k % 2) 1 = true) : (Tr.leaf : Tr α).setF (f + 1) k x = .node none (Tr.setF f .leaf (k / 2) x) .leaf := by
  show cond (Nat.beq k 0) _ (cond (Nat.beq (k % 2) 1) _ _) = _
  rw [h, h2]; rfl
theorem Tr.sl2 {α : Type} {f k : Nat} {x : Option α} (h : Nat.beq k 0 = false) (h2 : Nat.beq (k % 2) 1 = false) : (Tr.leaf : Tr α).setF (f + 1) k x = .node none .leaf (Tr.setF f .leaf (k / 2 - 1) x) := by
  show cond (Nat.beq k 0) _ (cond (Nat.beq (k % 2) 1) _ _) = _
  rw [h, h2]; rfl
theorem Tr.sn0 {α : Type} {f k : Nat} {v x : Option α} {l r : Tr α} (h : Nat.beq k 0 = true) : (Tr.node v l r).setF (f + 1) k x = .node x l r := by
  show cond (Nat.beq k 0) _ _ = _
  rw [h]; rfl
theorem Tr.sn1 {α : Type} {f k : Nat} {v x : Option α} {l r : Tr α} (h : Nat.beq k 0 = false) (h2 : Nat.beq (k % 2) 1 = true) : (Tr.node v l r).setF (f + 1) k x = .node v (Tr.setF f l (k / 2) x) r := by
  show cond (Nat.beq k 0) _ (cond (Nat.beq (k % 2) 1) _ _) = _
  rw [h, h2]; rfl
theorem Tr.sn2 {α : Type} {f k : Nat} {v x : Option α} {l r : Tr α} (h : Nat.beq k 0 = false) (h2 : Nat.beq (k % 2) 1 = false) : (Tr.node v l r).setF (f + 1) k x = .node v l (Tr.setF f r (k / 2 - 1) x) := by
  show cond (Nat.beq k 0) _ (cond (Nat.beq (k % 2) 1) _ _) = _
  rw [h, h2]; rfl
theorem Tr.setF_setF {α : Type} : ∀ (f : Nat) (t : Tr α) (k : Nat) (x y : Option α), (t.setF f k x).setF f k y = t.setF f k y
  | 0, _, _, _, _ => rfl
  | f + 1, .leaf, k, x, y => by
    cases h : Nat.beq k 0 with
    | true => rw [Tr.sl0 h, Tr.sl0 h, Tr.sn0 h]
    | false =>
      cases h2 : Nat.beq (k % 2) 1 with
      | true => rw [Tr.sl1 h h2, Tr.sl1 h h2, Tr.sn1 h h2, Tr.setF_setF f]
      | false => rw [Tr.sl2 h h2, Tr.sl2 h h2, Tr.sn2 h h2, Tr.setF_setF f]
  | f + 1, .node v l r, k, x, y => by
    cases h : Nat.beq k 0 with
    | true => rw [Tr.sn0 h, Tr.sn0 h, Tr.sn0 h]
    | false =>
      cases h2 : Nat.beq (k % 2) 1 with
      | true => rw [Tr.sn1 h h2, Tr.sn1 h h2, Tr.sn1 h h2, Tr.setF_setF f]
      | false => rw [Tr.sn2 h h2, Tr.sn2 h h2, Tr.sn2 h h2, Tr.setF_setF f]
theorem Tr.setF_self {α : Type} : ∀ (f : Nat) (t : Tr α) (k : Nat) (x : α), k < f → t.get k = some x → t.setF f k (some x) = t
  | 0, _, _, _, h, _ => by omega
  | f + 1, .leaf, k, x, _, h => by cases h
  | f + 1, .node v l r, k, x, hk, h => by
    cases h1 : Nat.beq k 0 with
    | true =>
      have : v = some x := by
        have e : (Tr.node v l r).get k = cond (Nat.beq k 0) v (cond (Nat.beq (k % 2) 1) (l.get (k / 2)) (r.get (k / 2 - 1))) := rfl
        rw [e, h1] at h; exact h
      rw [Tr.sn0 h1, this]
    | false =>
      have hk0 : k ≠ 0 := fun e => by rw [e] at h1; cases h1
      have e : (Tr.node v l r).get k = cond (Nat.beq k 0) v (cond (Nat.beq (k % 2) 1) (l.get (k / 2)) (r.get (k / 2 - 1))) := rfl
      rw [e, h1, cond_false] at h
      cases h2 : Nat.beq (k % 2) 1 with
      | true => rw [h2] at h; rw [Tr.sn1 h1 h2, Tr.setF_self f l (k / 2) x (by omega) h]
      | false => rw [h2] at h; rw [Tr.sn2 h1 h2, Tr.setF_self f r (k / 2 - 1) x (by omega) h]
theorem put_put (σ : AS) (k : Nat) (x y : Option AObj) : (σ.put k x).put k y = σ.put k y := by
  unfold AS.put Tr.set
  dsimp only
  rw [Tr.setF_setF]
theorem put_self {σ : AS} {k : Nat} {x : AObj} (h : σ.get k = some x) : σ.put k (some x) = σ := by
  unfold AS.put Tr.set
  rw [Tr.setF_self _ _ _ _ (Nat.lt_succ_self k) h]
theorem push_put (σ : AS) (x y : AObj) : (σ.push x).put σ.next (some y) = σ.push y := by
  unfold AS.put AS.push Tr.set
  dsimp only
  rw [Tr.setF_setF]
def spl (c : List Value) (k : Nat) (new : List Value) : List Value := c.take k ++ new ++ c.drop (k + new.length)
theorem spl_set (c new : List Value) (k : Nat) (v : Value) (hk : k + (v :: new).length ≤ c.length) : spl (c.set k v) (k + 1) new = spl c k (v :: new) := by
  unfold spl
  have hk1 : k < c.length := by simp at hk; omega
  rw [List.drop_set_of_lt (by omega), List.take_set, List.take_add_one, List.getElem?_eq_getElem hk1]
  rw [show k + 1 + new.length = k + (v :: new).length by simp; omega]
  have : (c.take k ++ (some c[k]).toList).set k v = c.take k ++ [v] := by
    rw [List.set_append_right _ _ (by rw [List.length_take]; omega), List.length_take, Nat.min_eq_left (by omega), Nat.sub_self]
    rfl
  rw [this]
  simp
theorem spl_len (c new : List Value) (k : Nat) (hk : k + new.length ≤ c.length) : (spl c k new).length = c.length := by
  unfold spl; simp; omega
theorem setCells_all {lim b : Nat} {lo : Lo} (hl : lim ≤ b) : ∀ (new : List Value) (σ : AS) (c : List Value) (off i : Nat), σ.get b = some (.cells c true lo none) → off + i + new.length ≤ c.length → new.all oneCell = true →
    σ.setCells lim ⟨b, off, none⟩ new i = some (σ.put b (some (.cells (spl c (off + i) new) true lo none)))
  | [], σ, c, off, i, h, hb, _ => by
    unfold AS.setCells spl
    rw [List.append_nil, List.length_nil, Nat.add_zero, List.take_append_drop, put_self h]
  | v :: new, σ, c, off, i, h, hb, hv => by
    rw [List.all_cons, Bool.and_eq_true] at hv
    unfold AS.setCells
    rw [hv.1, cond_true, add_off, setCell_of h hl (by simp at hb; omega)]
    dsimp only
    have hg : (σ.put b (some (.cells (c.set (off + i) v) true lo none))).get b = some (.cells (c.set (off + i) v) true lo none) := by rw [AS.get_put, if_pos rfl]
    rw [setCells_all hl new _ _ off (i + 1) hg (by simp at hb ⊢; omega) hv.2, put_put, show off + (i + 1) = off + i + 1 by omega, spl_set _ _ _ _ (by exact hb)]
end Go.Va
namespace Go.Proofs.YtcjjlajpbakaoaaGreatDoor
open Go.Va

/-- copy, from a list. -/
def cpyA (P : Program) (lim : Nat) (argTypes : Array TypeId) (args : List Value) (σ : AS) : Option (Value × AS) :=
  match copyL P lim argTypes args σ with
  | some r => r
  | none => none
def ST (w : List Value) : AS := (base0 9 tabs).push (.cells w true (none, some 125) none)

end Go.Proofs.YtcjjlajpbakaoaaGreatDoor
