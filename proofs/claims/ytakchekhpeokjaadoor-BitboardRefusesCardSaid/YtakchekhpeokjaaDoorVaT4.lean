/-
  APPENDING to a row whose length is not known; rows that are read.
-/
import Derived.Test.YtakchekhpeokjaaDoorVaT3
namespace Go.Va
open Go.RowKit

theorem append1_full {lim : Nat} {elem : TypeId} {i : TypeInfo} {r n : Nat} {xs : List Value} {v : Value} {σ : AS} (hg : σ.get r = some (.cells xs true (some i.size, some elem) none)) (hs : i.size = 1) (hn : xs.length = n) (hb : (n + 1) * i.bytes ≤ 70368744177664) (h0 : 0 < i.bytes)
    (hz : i.zero.isSome = true) (hv : oneCell v = true) (hl : lim ≤ r) :
    append1 lim elem i (some ⟨r, 0, none⟩) n n 1 [v] σ = some (.slice (some ⟨σ.next, 0, none⟩) (n + 1) (n + 1), (σ.put r (some (.cells xs false (some i.size, some elem) none))).push (.cells (xs ++ [v]) true (some i.size, some elem) (some r))) := by
  have e1 : Nat.ble (n + 1) n = false := by
    cases h : Nat.ble (n + 1) n with
    | false => rfl
    | true => rw [Nat.ble_eq] at h; omega
  have e2 : Nat.ble ((n + 1) * i.bytes) 70368744177664 = true := Nat.ble_eq ▸ hb
  have e3 : Nat.blt 0 i.bytes = true := blt_iff.2 h0
  have e4 : Nat.beq [v].length (1 * i.size) = true := by rw [hs]; rfl
  have e5 : Nat.ble (0 + n * i.size) xs.length = true := by rw [Nat.ble_eq, hs]; omega
  have e6 : σ.exact ⟨r, 0, none⟩ n = false := by
    unfold AS.exact
    dsimp only
    rw [hg]
    dsimp only
    cases h : Nat.blt (0 + n * i.size) xs.length with
    | false => rfl
    | true => rw [blt_iff, hs] at h; omega
  have e7 : Nat.ble lim r = true := Nat.ble_eq ▸ hl
  have e8 : (xs.drop 0).take (n * i.size) = xs := by rw [hs, List.drop_zero, Nat.mul_one, ← hn, List.take_length]
  unfold append1
  rw [e1, cond_false, e2, e3, hz, e4]
  simp only [List.all_cons, List.all_nil, hv, Bool.and_self, cond_true]
  rw [hg]
  dsimp only
  rw [e5, cond_true, e6, cond_false, e7]
  simp only [beq_self_eq_true, Bool.and_self, cond_true]
  simp only [AS.kill]
  rw [show Nat.beq n n = true from Nat.beq_refl n, cond_true, e8]

/-- The cells of a slice of values of one cell. -/
def rowOf (σ : AS) : Value → Option (List Value)
  | .slice none _ _ => some []
  | .slice (some ⟨r, o, none⟩) l _ =>
    match σ.get r with
    | some (.cells c _ _ _) => bif Nat.ble (o + l) c.length then some ((c.drop o).take l) else none
    | _ => none
  | _ => none

theorem rowOf_like {σ τ : AS} (hw : σ.Wf) (hl : σ.Like τ) {v : Value} {xs : List Value} (h : rowOf σ v = some xs) : rowOf τ v = some xs := by
  unfold rowOf at *
  split at h
  · exact h
  · rename_i r o l c
    cases hg : σ.get r with
    | none => rw [hg] at h; cases h
    | some x => rw [get_like hw hl hg]; rw [hg] at h; exact h
  · cases h

theorem good_rows {lim : Nat} {u v : Value} {k : List Value → List Value → Option Value} : Good lim (fun σ => match rowOf σ u, rowOf σ v with | some a, some b => (match k a b with | some r => some (r, σ) | none => none) | _, _ => none) := by
  intro σ r σ' h hw
  dsimp only at h
  split at h
  · rename_i a b ha hb
    split at h
    · rename_i r' hk
      cases h
      refine ⟨.refl _ _, fun τ hl => ⟨τ, ?_, ⟨hl.1, fun id hid => hl.2 id hid, fun _ _ => rfl⟩⟩⟩
      dsimp only
      rw [rowOf_like hw hl ha, rowOf_like hw hl hb]
      dsimp only
      rw [hk]
    · cases h
  · cases h

theorem good_row {lim : Nat} {u : Value} {k : List Value → Option Value} : Good lim (fun σ => match rowOf σ u with | some a => (match k a with | some r => some (r, σ) | none => none) | _ => none) := by
  intro σ r σ' h hw
  dsimp only at h
  split at h
  · rename_i a ha
    split at h
    · rename_i r' hk
      cases h
      refine ⟨.refl _ _, fun τ hl => ⟨τ, ?_, ⟨hl.1, fun id hid => hl.2 id hid, fun _ _ => rfl⟩⟩⟩
      dsimp only
      rw [rowOf_like hw hl ha]
      dsimp only
      rw [hk]
    · cases h
  · cases h

/-- A new row is made, of what is known. -/
theorem good_push {lim : Nat} {mk : Nat → Value} {xs : List Value} {lo : Lo} : Good lim (fun σ => some (mk σ.next, σ.push (.cells xs true lo none))) := by
  intro σ v σ' h hw
  cases h
  refine ⟨kept_push _ _ _ (fun q hq => by cases hq), fun τ hl => ⟨τ.push (.cells xs true lo none), by show some (mk τ.next, _) = _; rw [hl.1], ⟨by simp [hl.1], fun id hid => ?_, fun id hid => ?_⟩⟩⟩
  · rw [AS.get_push, AS.get_push, hl.1]
    simp only [AS.next_push] at hid
    split
    · rfl
    · exact hl.2 _ (by omega)
  · simp only [AS.next_push] at hid
    rw [AS.get_push, if_neg (by rw [hl.1]; omega)]

end Go.Va
