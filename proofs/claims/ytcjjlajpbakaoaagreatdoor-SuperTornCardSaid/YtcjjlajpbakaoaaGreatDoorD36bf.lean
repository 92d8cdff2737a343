/-
  SUPERBLOCK (chapter 36): SuperTorn: the law.
-/
import Derived.Test.YtcjjlajpbakaoaaGreatDoorD36be
namespace Go.Proofs.YtcjjlajpbakaoaaGreatDoor
open Go.Va

/-- A draft's superblock, by its parts. -/
theorem made_parts (e l s c t sd : Nat) (hsd : sd < 18446744073709551616) : ∃ E a b k d S : Nat, made e l s c t sd = sup E a b k d S ∧ 1 ≤ E ∧ E ≤ 1099511627776 ∧ chk a b k d S = true ∧ S < 18446744073709551616 :=
  ⟨_, _, _, _, _, _, rfl, by omega, by have := Nat.mod_lt e (show 0 < 1099511627776 by omega); omega, chk_made e l s c t sd, by cases Nat.beq (t % 3) 2 <;> simp only [cond_true, cond_false] <;> omega⟩
theorem encV_ok (e a b c d s : Nat) (h1 : 1 ≤ e) (h2 : e ≤ 1099511627776) (hc : chk a b c d s = true) : encV e a b c d s = .tuple #[L (bys (encL e a b c d s)) 128 1 1, .int .i64 0] := by
  have hv : vld e a b c d s = true := by unfold vld; rw [decide_eq_true (show (e : Int) ≥ 1 by omega), decide_eq_true (show (e : Int) ≤ 1099511627776 by omega), hc]; rfl
  unfold encV
  rw [hv]
  simp only [Int.toNat_natCast, cond_true]
theorem ovT_30 (e l s c t sd : Nat) (hl : l < 65536) (hs : s < 65536) (hc : c < 65536) (ht : t < 256) (lim : Nat) (σ : AS) : (envT tT).ov 30 [drf e l s c t sd] lim σ = some (made e l s c t sd, σ) := by
  refine envK rfl rfl rfl rfl ?_
  unfold tT t13 t8
  rw [pfT_ne rfl, pfT_ne rfl, pfT_ne rfl, pfT_eq]
  show (bif decide (0 ≤ (e : Int)) && inU16 l && inU16 s && inU16 c && (decide (0 ≤ (t : Int)) && decide ((t : Int) < 256)) && decide (0 ≤ (sd : Int)) then some (made (e : Int).toNat (l : Int).toNat (s : Int).toNat (c : Int).toNat (t : Int).toNat (sd : Int).toNat) else none) = _
  unfold inU16
  rw [nat0, nat0, nat0, nat0, nat0, nat0, decide_eq_true (show (l : Int) < 65536 by omega), decide_eq_true (show (s : Int) < 65536 by omega), decide_eq_true (show (c : Int) < 65536 by omega), decide_eq_true (show (t : Int) < 256 by omega)]
  rfl
theorem law9 (x1 x2 x3 x4 x5 x6 z1 z2 z3 z4 z5 z6 : Nat) (hx2 : x2 < 65536) (hx3 : x3 < 65536) (hx4 : x4 < 65536) (hx5 : x5 < 256) (hx6 : x6 < 18446744073709551616) (hz2 : z2 < 65536) (hz3 : z3 < 65536) (hz4 : z4 < 65536) (hz5 : z5 < 256) (hz6 : z6 < 18446744073709551616) :
    Pure Tryz.prog 9 tabs 9 [drf x1 x2 x3 x4 x5 x6, drf z1 z2 z3 z4 z5 z6] (.bool true) := by
  obtain ⟨e, a, b, c, d, s, hm, e1, e2, ec, es⟩ := made_parts x1 x2 x3 x4 x5 x6 hx6
  obtain ⟨e', a', b', c', d', s', hm', e1', e2', ec', es'⟩ := made_parts z1 z2 z3 z4 z5 z6 hz6
  have m1 := ovT_30 x1 x2 x3 x4 x5 x6 hx2 hx3 hx4 hx5 0
  have m2 := ovT_30 z1 z2 z3 z4 z5 z6 hz2 hz3 hz4 hz5 0
  rw [hm] at m1
  rw [hm'] at m2
  have p1 : ∀ σ, (envT tT).ov 22 [sup e a b c d s] 0 σ = some (.tuple #[L (bys (encL e a b c d s)) 128 1 1, .int .i64 0], σ) := fun σ => by rw [ovT_22 _ _ _ _ _ _ (by omega) (by omega), encV_ok e a b c d s e1 e2 ec]
  by_cases hee : e = e'
  · have hE : IntKind.i64.wrap (1 + (e' : Int).tmod 1099511627776) = ((1 + e' % 1099511627776 : Nat) : Int) := by
      rw [Int.tmod_eq_emod_of_nonneg (by omega), wrap64 (by omega) (by omega)]; omega
    have hlt := Nat.mod_lt e' (show 0 < 1099511627776 by omega)
    have hne : e ≠ 1 + e' % 1099511627776 := by
      rw [hee]
      by_cases h : e' = 1099511627776
      · rw [h]; decide
      · rw [Nat.mod_eq_of_lt (by omega)]; omega
    have p2 : ∀ σ, (envT tT).ov 22 [sup ((1 + e' % 1099511627776 : Nat) : Int) a' b' c' d' s'] 0 σ = some (.tuple #[L (bys (encL (1 + e' % 1099511627776) a' b' c' d' s')) 128 1 1, .int .i64 0], σ) := fun σ => by rw [ovT_22 _ _ _ _ _ _ (by omega) (by omega), encV_ok _ a' b' c' d' s' (by omega) (by omega) ec']
    obtain ⟨w', σ', lo⟩ := loop9 e a b c d s (1 + e' % 1099511627776) a' b' c' d' s' e1 e2 ec es (by omega) (by omega) ec' es' hne 129 0 (w9b x1 x2 x3 x4 x5 x6 z1 z2 z3 z4 z5 z6 e a b c d s e' a' b' c' d' s' ((1 + e' % 1099511627776 : Nat) : Int) (bys (encL e a b c d s)) (bys (encL (1 + e' % 1099511627776) a' b' c' d' s')))
      (S9 x1 x2 x3 x4 x5 x6 z1 z2 z3 z4 z5 z6 e a b c d s ((1 + e' % 1099511627776 : Nat) : Int) a' b' c' d' s') (by omega) (by kernel_rfl) (by kernel_rfl) (by show 13 ≤ 13; omega)
    exact law9_b x1 x2 x3 x4 x5 x6 z1 z2 z3 z4 z5 z6 e a b c d s e' a' b' c' d' s' _ _ _ w' σ' m1 m2 (by rw [hee]; exact beq_self_eq_true _) (congrArg _ hE) p1 p2 lo
  · have p2 : ∀ σ, (envT tT).ov 22 [sup e' a' b' c' d' s'] 0 σ = some (.tuple #[L (bys (encL e' a' b' c' d' s')) 128 1 1, .int .i64 0], σ) := fun σ => by rw [ovT_22 _ _ _ _ _ _ (by omega) (by omega), encV_ok _ a' b' c' d' s' e1' e2' ec']
    obtain ⟨w', σ', lo⟩ := loop9 e a b c d s e' a' b' c' d' s' e1 e2 ec es e1' e2' ec' es' hee 129 0 (w9a x1 x2 x3 x4 x5 x6 z1 z2 z3 z4 z5 z6 e a b c d s e' a' b' c' d' s' (bys (encL e a b c d s)) (bys (encL e' a' b' c' d' s')))
      (S9 x1 x2 x3 x4 x5 x6 z1 z2 z3 z4 z5 z6 e a b c d s e' a' b' c' d' s') (by omega) (by kernel_rfl) (by kernel_rfl) (by show 13 ≤ 13; omega)
    exact law9_a x1 x2 x3 x4 x5 x6 z1 z2 z3 z4 z5 z6 e a b c d s e' a' b' c' d' s' _ _ w' σ' m1 m2 (beq_eq_false_iff_ne.2 (fun h => hee (by omega))) p1 p2 lo
theorem law9' (x1 x2 x3 x4 x5 x6 z1 z2 z3 z4 z5 z6 : Int) (a0 : IntKind.u64.min ≤ x1) (_ : x1 ≤ IntKind.u64.max) (b0 : IntKind.u16.min ≤ x2) (b1 : x2 ≤ IntKind.u16.max) (c0 : IntKind.u16.min ≤ x3) (c1 : x3 ≤ IntKind.u16.max) (d0 : IntKind.u16.min ≤ x4) (d1 : x4 ≤ IntKind.u16.max)
    (e0 : IntKind.u8.min ≤ x5) (e1 : x5 ≤ IntKind.u8.max) (f0 : IntKind.u64.min ≤ x6) (f1 : x6 ≤ IntKind.u64.max) (a0' : IntKind.u64.min ≤ z1) (_ : z1 ≤ IntKind.u64.max) (b0' : IntKind.u16.min ≤ z2) (b1' : z2 ≤ IntKind.u16.max) (c0' : IntKind.u16.min ≤ z3) (c1' : z3 ≤ IntKind.u16.max) (d0' : IntKind.u16.min ≤ z4) (d1' : z4 ≤ IntKind.u16.max)
    (e0' : IntKind.u8.min ≤ z5) (e1' : z5 ≤ IntKind.u8.max) (f0' : IntKind.u64.min ≤ z6) (f1' : z6 ≤ IntKind.u64.max) : Pure Tryz.prog 9 tabs 9 [drf x1 x2 x3 x4 x5 x6, drf z1 z2 z3 z4 z5 z6] (.bool true) := by
  have k0 : IntKind.u64.min = 0 := rfl
  have k1 : IntKind.u16.min = 0 := rfl
  have k2 : IntKind.u16.max = 65535 := rfl
  have k3 : IntKind.u8.min = 0 := rfl
  have k4 : IntKind.u8.max = 255 := rfl
  have k5 : IntKind.u64.max = 18446744073709551615 := rfl
  have := law9 x1.toNat x2.toNat x3.toNat x4.toNat x5.toNat x6.toNat z1.toNat z2.toNat z3.toNat z4.toNat z5.toNat z6.toNat (by omega) (by omega) (by omega) (by omega) (by omega) (by omega) (by omega) (by omega) (by omega) (by omega)
  rw [Int.toNat_of_nonneg (by omega), Int.toNat_of_nonneg (by omega), Int.toNat_of_nonneg (by omega), Int.toNat_of_nonneg (by omega), Int.toNat_of_nonneg (by omega), Int.toNat_of_nonneg (by omega), Int.toNat_of_nonneg (by omega), Int.toNat_of_nonneg (by omega), Int.toNat_of_nonneg (by omega), Int.toNat_of_nonneg (by omega), Int.toNat_of_nonneg (by omega), Int.toNat_of_nonneg (by omega)] at this
  exact this

end Go.Proofs.YtcjjlajpbakaoaaGreatDoor
