/-
  SUPERBLOCK (chapter 36): SuperCodes: the law.
-/
import Derived.Test.YtcjjlajpbakaoaaGreatDoorD36ax
import Derived.Test.YtcjjlajpbakaoaaGreatDoorD36ay
namespace Go.Proofs.YtcjjlajpbakaoaaGreatDoor
open Go.Va

theorem codes_no (e a b c d s e' a' b' c' d' s' r : Int) (q : List Value) (n : Nat) (h1 : decide ((n : Int) > 300) = false) (h0 : n ≠ 0)
    (p1 : ∀ σ, (envT tC).ov 22 [sup e a b c d s] 0 σ = some (.tuple #[.slice none 0 0, .int .i64 2], σ)) (p2 : ∀ σ, (envT tC).ov 23 [sup e a b c d s] 0 σ = some (.tuple #[.slice none 0 0, .int .i64 2], σ))
    (p3 : ∀ σ, (envT tC).ov 25 [L q n 1 0] 0 σ = some (.tuple #[sup e' a' b' c' d' s', .int .i64 r], σ)) (p4 : ∀ σ, (envT tC).ov 26 [L q n 1 0] 0 σ = some (.tuple #[sup e' a' b' c' d' s', .int .i64 r], σ))
    (p6 : ∀ lim σ, (envT tC).ov 27 [L q (0 + n) 1 12, L q n 1 0] lim σ = some (.bool true, σ)) :
    Pure Tryz.prog 9 tabs 4 [sup e a b c d s, L q n 1 0] (.bool true) :=
  pureT tC_ok (n := 2000) (v := .bool true) [(5, .br false), (2, .ok), (2, .ov (.tuple #[.slice none 0 0, .int .i64 2])), (15, .ov (.tuple #[.slice none 0 0, .int .i64 2])), (6, .ov (.tuple #[sup e' a' b' c' d' s', .int .i64 r])), (7, .ov (.tuple #[sup e' a' b' c' d' s', .int .i64 r])), (26, .sem (.bool true) (SC q.length e a b c d s e' a' b' c' d' s')), (6, .br true), (2, .ov (.bool true))]
    [decide ((n : Int) > 300) = false, n ≠ 0 ∧ (0 + n) * 1 ≤ 70368744177664, ∀ σ, (envT tC).ov 22 [sup e a b c d s] 0 σ = some (.tuple #[.slice none 0 0, .int .i64 2], σ), ∀ σ, (envT tC).ov 23 [sup e a b c d s] 0 σ = some (.tuple #[.slice none 0 0, .int .i64 2], σ),
     ∀ σ, (envT tC).ov 25 [L q n 1 0] 0 σ = some (.tuple #[sup e' a' b' c' d' s', .int .i64 r], σ), ∀ σ, (envT tC).ov 26 [L q n 1 0] 0 σ = some (.tuple #[sup e' a' b' c' d' s', .int .i64 r], σ),
     runA Tryz.prog 0 (binOp .eql 41 (sup e' a' b' c' d' s') (sup e' a' b' c' d' s')) (SC q.length e a b c d s e' a' b' c' d' s') = some (.bool true, SC q.length e a b c d s e' a' b' c' d' s'), (r == r) = true,
     ∀ σ, (envT tC).ov 27 [L q (0 + n) 1 12, L q n 1 0] 0 σ = some (.bool true, σ)] (by kernel_rfl)
    ⟨h1, ⟨h0, by have := of_decide_eq_false h1; omega⟩, p1, p2, p3, p4, by rw [eqSup 41 (.inr rfl), eqS_self], beq_self_eq_true r, p6 0⟩ rfl (.bool _)

theorem ovC_22 (e a b c d s : Int) (s0 : 0 ≤ s) (s1 : s < 18446744073709551616) (lim : Nat) (σ : AS) : (envT tC).ov 22 [sup e a b c d s] lim σ = some (encV e a b c d s, σ) := by
  refine envK rfl rfl (show _ = [sup e a b c d s] from rfl) rfl ?_
  unfold tC t13
  rw [pfT_ne rfl, pfT_ne rfl, pfT_ne rfl, pfT_ne rfl, pfT_eq]
  show (bif decide (0 ≤ s) && decide (s < 18446744073709551616) then some (encV e a b c d s) else none) = _
  rw [decide_eq_true s0, decide_eq_true s1]
  rfl
theorem ovC_23 (e a b c d s : Int) (s0 : 0 ≤ s) (s1 : s < 18446744073709551616) (lim : Nat) (σ : AS) : (envT tC).ov 23 [sup e a b c d s] lim σ = some (encR e a b c d s, σ) := by
  refine envK rfl rfl (show _ = [sup e a b c d s] from rfl) rfl ?_
  unfold tC
  rw [pfT_ne rfl, pfT_ne rfl, pfT_ne rfl, pfT_eq]
  show (bif decide (0 ≤ s) && decide (s < 18446744073709551616) then some (encR e a b c d s) else none) = _
  rw [decide_eq_true s0, decide_eq_true s1]
  rfl
theorem ovC_dec (f : Nat) (hf : f = 25 ∨ f = 26) (l : List UInt8) (g : Nat) (hg : g ≤ 1) (hl : l.length < 1000000) (lim : Nat) (σ : AS) : (envT tC).ov f [L (bys l) l.length 1 g] lim σ = some (decO l, σ) := by
  rcases hf with rfl | rfl <;>
  · refine envK rfl rfl (show [strip (L (bys l) l.length 1 g)] = [L (bys l) l.length 1 g] by rw [strip_le hg]) (flat_args1 hg) ?_
    show k25 [L (bys l) l.length 1 g] = _
    unfold k25
    dsimp only
    rw [asB_L hg (by omega)]
    dsimp only
    rw [show Nat.blt l.length 1000000 = true from blt_iff.2 hl]
    rfl
theorem ovC_27 (l : List UInt8) (n n' g g' : Nat) (hl : l.length = n) (hm : l.length = n') (hn : n < 1000000) (hg' : g' ≤ 1) (lim : Nat) (σ : AS) :
    (envT tC).ov 27 [L (bys l) n 1 g, L (bys l) n' 1 g'] lim σ = some (.bool true, σ) := by
  subst hl
  subst hm
  have hs : ∃ h, h ≤ 1 ∧ strip (L (bys l) l.length 1 g) = L (bys l) l.length 1 h := by
    by_cases hg : g ≤ 1
    · exact ⟨g, hg, strip_le hg⟩
    · refine ⟨0, by omega, ?_⟩
      show (bif Nat.ble g 1 then _ else _) = _
      rw [show Nat.ble g 1 = false by rw [← Bool.not_eq_true, Nat.ble_eq]; exact hg]; rfl
  obtain ⟨h, hh, hs⟩ := hs
  refine envK rfl rfl (show [strip (L (bys l) l.length 1 g), strip (L (bys l) l.length 1 g')] = [L (bys l) l.length 1 h, L (bys l) l.length 1 g'] by rw [hs, strip_le hg']) ?_ ?_
  · show (flatB 100 (L (bys l) l.length 1 h) && (flatB 100 (L (bys l) l.length 1 g') && true)) = true
    rw [flat_L hh, flat_L hg']; rfl
  · show k111 [L (bys l) l.length 1 h, L (bys l) l.length 1 g'] = _
    unfold k111
    dsimp only
    rw [asB_L hh (by omega), asB_L hg' (by omega)]
    dsimp only
    rw [beq_self_eq_true]
/-- What is decoded has this form. -/
theorem decO_form (l : List UInt8) : ∃ e a b c d s r, decO l = .tuple #[sup e a b c d s, .int .i64 r] := by
  unfold decO
  cases Nat.blt l.length 128 with
  | true => exact ⟨0, 0, 0, 0, 0, 0, 13, rfl⟩
  | false =>
    cases (Nat.beq (decE l) 0 || Nat.blt 1099511627776 (decE l)) with
    | true => exact ⟨0, 0, 0, 0, 0, 0, 8, rfl⟩
    | false =>
      cases stamped (decE l) l with
      | false => exact ⟨0, 0, 0, 0, 0, 0, 13, rfl⟩
      | true =>
        cases (sealL ((dat l).take 25) == (dat l).take 29) with
        | false => exact ⟨0, 0, 0, 0, 0, 0, 12, rfl⟩
        | true =>
          cases (vld (decE l) (fld l 4 4) (fld l 8 4) (fld l 12 4) (fld l 16 1) (fld l 17 8) && (encL (decE l) (fld l 4 4) (fld l 8 4) (fld l 12 4) (fld l 16 1) (fld l 17 8) == l.take 128)) with
          | false => exact ⟨0, 0, 0, 0, 0, 0, 8, rfl⟩
          | true => exact ⟨_, _, _, _, _, _, _, rfl⟩
theorem law4_l (e a b c d s : Int) (s0 : 0 ≤ s) (s1 : s < 18446744073709551616) (l : List UInt8) (hl : l.length ≠ 0) : Pure Tryz.prog 9 tabs 4 [sup e a b c d s, L (bys l) l.length 1 0] (.bool true) := by
  by_cases h3 : (l.length : Int) > 300
  · exact pureT tC_ok (n := 2000) (v := .bool true) [(5, .br true)] [decide ((l.length : Int) > 300) = true] (by kernel_rfl) (decide_eq_true h3) rfl (.bool _)
  · obtain ⟨e', a', b', c', d', s', r, hf⟩ := decO_form l
    have p3 : ∀ σ, (envT tC).ov 25 [L (bys l) l.length 1 0] 0 σ = some (.tuple #[sup e' a' b' c' d' s', .int .i64 r], σ) := fun σ => by rw [← hf]; exact ovC_dec 25 (.inl rfl) l 0 (by omega) (by omega) 0 σ
    have p4 : ∀ σ, (envT tC).ov 26 [L (bys l) l.length 1 0] 0 σ = some (.tuple #[sup e' a' b' c' d' s', .int .i64 r], σ) := fun σ => by rw [← hf]; exact ovC_dec 26 (.inr rfl) l 0 (by omega) (by omega) 0 σ
    have p6 : ∀ lim σ, (envT tC).ov 27 [L (bys l) (0 + l.length) 1 12, L (bys l) l.length 1 0] lim σ = some (.bool true, σ) := fun lim σ => ovC_27 l _ _ 12 0 (by omega) rfl (by omega) (by omega) lim σ
    have p1 := ovC_22 e a b c d s s0 s1 0
    have p2 := ovC_23 e a b c d s s0 s1 0
    unfold encV at p1
    unfold encR at p2
    cases h : vld e a b c d s with
    | true =>
      rw [h] at p1 p2
      have hE := encL_len e.toNat a.toNat b.toNat c.toNat d.toNat s.toNat
      exact codes_ok e a b c d s e' a' b' c' d' s' r (bys l) _ l.length (decide_eq_false h3) hl p1 p2 p3 p4 (fun lim σ => ovC_27 _ 128 128 1 0 hE hE (by omega) (by omega) lim σ) p6
    | false =>
      rw [h] at p1 p2
      exact codes_no e a b c d s e' a' b' c' d' s' r (bys l) l.length (decide_eq_false h3) hl p1 p2 p3 p4 p6
theorem law4_n (e a b c d s : Int) (s0 : 0 ≤ s) (s1 : s < 18446744073709551616) : Pure Tryz.prog 9 tabs 4 [sup e a b c d s, .slice none 0 0] (.bool true) := by
  have p1 := ovC_22 e a b c d s s0 s1 0
  have p2 := ovC_23 e a b c d s s0 s1 0
  unfold encV at p1
  unfold encR at p2
  cases h : vld e a b c d s with
  | true =>
    rw [h] at p1 p2
    have hE := encL_len e.toNat a.toNat b.toNat c.toNat d.toNat s.toNat
    exact pureT tC_ok (n := 2000) (v := .bool true) [(11, .ov (.tuple #[L (bys (encL e.toNat a.toNat b.toNat c.toNat d.toNat s.toNat)) 128 1 1, .int .i64 0])), (15, .ov (.tuple #[L (bys (encL e.toNat a.toNat b.toNat c.toNat d.toNat s.toNat)) 128 1 0, .int .i64 0])), (23, .ov (.bool true))] [_, _, _] (by kernel_rfl)
      ⟨p1, p2, (fun σ => ovC_27 _ 128 128 1 0 hE hE (by omega) (by omega) 0 σ)⟩ rfl (.bool _)
  | false =>
    rw [h] at p1 p2
    exact pureT tC_ok (n := 2000) (v := .bool true) [(11, .ov (.tuple #[.slice none 0 0, .int .i64 2])), (15, .ov (.tuple #[.slice none 0 0, .int .i64 2]))] [_, _] (by kernel_rfl) ⟨p1, p2⟩ rfl (.bool _)

/-! ## A slice of no byte, with a place -/

def tV : Ktab := (23, k23) :: t13
theorem tV_ok : TOk Tryz.prog 9 tabs tV := ⟨k23_ok, t13_ok⟩
def SV (e a b c d s : Int) : AS := ((((((base0 9 tabs).push (bx 36 e a b c d s)).push (bx 36 e a b c d s)).push (bx 41 e a b c d s)).push (bx 36 0 0 0 0 0 0)).push (bx 36 0 0 0 0 0 0)).push (bx 41 0 0 0 0 0 0) |>.push (bx 41 0 0 0 0 0 0)
theorem ovV_22 (e a b c d s : Int) (s0 : 0 ≤ s) (s1 : s < 18446744073709551616) (lim : Nat) (σ : AS) : (envT tV).ov 22 [sup e a b c d s] lim σ = some (encV e a b c d s, σ) := by
  refine envK rfl rfl (show _ = [sup e a b c d s] from rfl) rfl ?_
  unfold tV t13
  rw [pfT_ne rfl, pfT_eq]
  show (bif decide (0 ≤ s) && decide (s < 18446744073709551616) then some (encV e a b c d s) else none) = _
  rw [decide_eq_true s0, decide_eq_true s1]
  rfl
theorem ovV_23 (e a b c d s : Int) (s0 : 0 ≤ s) (s1 : s < 18446744073709551616) (lim : Nat) (σ : AS) : (envT tV).ov 23 [sup e a b c d s] lim σ = some (encR e a b c d s, σ) := by
  refine envK rfl rfl (show _ = [sup e a b c d s] from rfl) rfl ?_
  unfold tV
  rw [pfT_eq]
  show (bif decide (0 ≤ s) && decide (s < 18446744073709551616) then some (encR e a b c d s) else none) = _
  rw [decide_eq_true s0, decide_eq_true s1]
  rfl
def wV (c : List Value) : Nat → Value := fun j => Go.Va.look [(4, .bool false), (6, L c 128 1 1), (7, .int .i64 128), (8, L c 128 1 0), (9, .int .i64 128), (10, .bool false)] j undef
theorem law4_v (e a b c d s : Int) (s0 : 0 ≤ s) (s1 : s < 18446744073709551616) : Pure Tryz.prog 9 tabs 4 [sup e a b c d s, .slice (some void) 0 0] (.bool true) := by
  have p1 := ovV_22 e a b c d s s0 s1 0
  have p2 := ovV_23 e a b c d s s0 s1 0
  unfold encV at p1
  unfold encR at p2
  cases h : vld e a b c d s with
  | true =>
    rw [h] at p1 p2
    have hE := encL_len e.toNat a.toNat b.toNat c.toNat d.toNat s.toNat
    obtain ⟨w', hw⟩ := loop27T tV (SV e a b c d s) (encL e.toNat a.toNat b.toNat c.toNat d.toNat s.toNat) (encL e.toNat a.toNat b.toNat c.toNat d.toNat s.toNat) 128 1 0 hE hE (by omega) 128 0 (wV (bys (encL e.toNat a.toNat b.toNat c.toNat d.toNat s.toNat))) (by omega)
    rw [beq_self_eq_true, cond_true] at hw
    exact pureT tV_ok (n := 2000) (v := .bool true) [(11, .ov (.tuple #[L (bys (encL e.toNat a.toNat b.toNat c.toNat d.toNat s.toNat)) 128 1 1, .int .i64 0])), (15, .ov (.tuple #[L (bys (encL e.toNat a.toNat b.toNat c.toNat d.toNat s.toNat)) 128 1 0, .int .i64 0])), (50, .skip (.done (.exit 0) (fillT 26 [] w') []) (SV e a b c d s))] [_, _, _] (by kernel_rfl)
      ⟨p1, p2, hw⟩ rfl (.bool _)
  | false =>
    rw [h] at p1 p2
    exact pureT tV_ok (n := 2000) (v := .bool true) [(11, .ov (.tuple #[.slice none 0 0, .int .i64 2])), (15, .ov (.tuple #[.slice none 0 0, .int .i64 2]))] [_, _] (by kernel_rfl) ⟨p1, p2⟩ rfl (.bool _)

theorem law4_l' (e a b c d s : Int) (l : List UInt8) (_ : IntKind.i64.min ≤ e) (_ : e ≤ IntKind.i64.max) (_ : IntKind.i64.min ≤ a) (_ : a ≤ IntKind.i64.max) (_ : IntKind.i64.min ≤ b) (_ : b ≤ IntKind.i64.max) (_ : IntKind.i64.min ≤ c) (_ : c ≤ IntKind.i64.max) (_ : IntKind.i64.min ≤ d) (_ : d ≤ IntKind.i64.max)
    (s0 : IntKind.u64.min ≤ s) (s1 : s ≤ IntKind.u64.max) (hl : l.length ≠ 0) : Pure Tryz.prog 9 tabs 4 [sup e a b c d s, L (bys l) l.length 1 0] (.bool true) := law4_l e a b c d s s0 (by have : s ≤ 18446744073709551615 := s1; omega) l hl
theorem law4_n' (e a b c d s : Int) (_ : IntKind.i64.min ≤ e) (_ : e ≤ IntKind.i64.max) (_ : IntKind.i64.min ≤ a) (_ : a ≤ IntKind.i64.max) (_ : IntKind.i64.min ≤ b) (_ : b ≤ IntKind.i64.max) (_ : IntKind.i64.min ≤ c) (_ : c ≤ IntKind.i64.max) (_ : IntKind.i64.min ≤ d) (_ : d ≤ IntKind.i64.max)
    (s0 : IntKind.u64.min ≤ s) (s1 : s ≤ IntKind.u64.max) : Pure Tryz.prog 9 tabs 4 [sup e a b c d s, .slice none 0 0] (.bool true) := law4_n e a b c d s s0 (by have : s ≤ 18446744073709551615 := s1; omega)
theorem law4_v' (e a b c d s : Int) (_ : IntKind.i64.min ≤ e) (_ : e ≤ IntKind.i64.max) (_ : IntKind.i64.min ≤ a) (_ : a ≤ IntKind.i64.max) (_ : IntKind.i64.min ≤ b) (_ : b ≤ IntKind.i64.max) (_ : IntKind.i64.min ≤ c) (_ : c ≤ IntKind.i64.max) (_ : IntKind.i64.min ≤ d) (_ : d ≤ IntKind.i64.max)
    (s0 : IntKind.u64.min ≤ s) (s1 : s ≤ IntKind.u64.max) : Pure Tryz.prog 9 tabs 4 [sup e a b c d s, .slice (some void) 0 0] (.bool true) := law4_v e a b c d s s0 (by have : s ≤ 18446744073709551615 := s1; omega)

end Go.Proofs.YtcjjlajpbakaoaaGreatDoor
