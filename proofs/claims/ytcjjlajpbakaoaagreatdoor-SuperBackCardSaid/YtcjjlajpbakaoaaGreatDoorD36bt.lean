/-
  SUPERBLOCK (chapter 36): SuperBack: the law.
-/
import Derived.Test.YtcjjlajpbakaoaaGreatDoorD36br
import Derived.Test.YtcjjlajpbakaoaaGreatDoorPart9
namespace Go.Proofs.YtcjjlajpbakaoaaGreatDoor
open Go.Va

theorem tsize {a b c d s : Nat} (h : chk a b c d s = true) (hs : s < 18446744073709551616) : (textS a b c d s).size < 100000 := by
  obtain ⟨k1, k2, k3, k4, k5, k6, k7, k8, _⟩ := chk_spec h
  have h1 := lenJ_flds a b c d s (by omega) (by omega) (by omega) hs
  have h2 : (textS a b c d s).size = lenJ (flds a b c d s) sp := by
    show (Lib.join _ _).toArray.size = _
    rw [List.size_toArray]
    rfl
  omega
theorem enc_inj {e a b c d s e' a' b' c' d' s' : Nat} (h1 : 1 ≤ e) (h2 : e ≤ 1099511627776) (hc : chk a b c d s = true) (hs : s < 18446744073709551616) (h1' : 1 ≤ e') (h2' : e' ≤ 1099511627776) (hc' : chk a' b' c' d' s' = true) (hs' : s' < 18446744073709551616)
    (h : encL e a b c d s = encL e' a' b' c' d' s') : e = e' ∧ a = a' ∧ b = b' ∧ c = c' ∧ d = d' ∧ s = s' := by
  have e1 := dec_enc e a b c d s h1 h2 hc hs
  rw [h, dec_enc e' a' b' c' d' s' h1' h2' hc' hs'] at e1
  injection e1 with e1
  injection e1 with e1
  injection e1 with e1 _
  unfold sup at e1
  injection e1 with e1
  injection e1 with e1
  simp only [List.cons.injEq, Value.int.injEq, true_and, and_true] at e1
  omega
theorem ovR_30 (e l s c t sd : Nat) (hl : l < 65536) (hs : s < 65536) (hc : c < 65536) (ht : t < 256) (lim : Nat) (σ : AS) : (envT tR).ov 30 [drf e l s c t sd] lim σ = some (made e l s c t sd, σ) := by
  refine envK rfl rfl rfl rfl ?_
  unfold tR t13 t8
  rw [pfT_ne rfl, pfT_ne rfl, pfT_ne rfl, pfT_ne rfl, pfT_eq]
  show (bif decide (0 ≤ (e : Int)) && inU16 l && inU16 s && inU16 c && (decide (0 ≤ (t : Int)) && decide ((t : Int) < 256)) && decide (0 ≤ (sd : Int)) then some (made (e : Int).toNat (l : Int).toNat (s : Int).toNat (c : Int).toNat (t : Int).toNat (sd : Int).toNat) else none) = _
  unfold inU16
  rw [nat0, nat0, nat0, nat0, nat0, nat0, decide_eq_true (show (l : Int) < 65536 by omega), decide_eq_true (show (s : Int) < 65536 by omega), decide_eq_true (show (c : Int) < 65536 by omega), decide_eq_true (show (t : Int) < 256 by omega)]
  rfl
theorem ovR_25g (l : List UInt8) (n : Nat) (hn : l.length = n) (hl : n < 1000000) (lim : Nat) (σ : AS) : (envT tR).ov 25 [L (bys l) n 1 15] lim σ = some (decO l, σ) := by
  subst hn
  refine envK rfl rfl (show [strip (L (bys l) l.length 1 15)] = [L (bys l) l.length 1 0] from rfl) (flat_args1 (by omega)) ?_
  unfold tR
  rw [pfT_eq]
  unfold k25
  dsimp only
  rw [asB_L (by omega) (by omega)]
  dsimp only
  rw [show Nat.blt l.length 1000000 = true from blt_iff.2 hl]
  rfl
theorem law6_l (x1 x2 x3 x4 x5 x6 z1 z2 z3 z4 z5 z6 : Nat) (more : List UInt8) (hm : more.length ≤ 100) (hx2 : x2 < 65536) (hx3 : x3 < 65536) (hx4 : x4 < 65536) (hx5 : x5 < 256) (hx6 : x6 < 18446744073709551616) (hz2 : z2 < 65536) (hz3 : z3 < 65536) (hz4 : z4 < 65536) (hz5 : z5 < 256) (hz6 : z6 < 18446744073709551616) :
    Pure Tryz.prog 9 tabs 6 [drf x1 x2 x3 x4 x5 x6, drf z1 z2 z3 z4 z5 z6, L (bys more) more.length 1 0] (.bool true) := by
  obtain ⟨e, a, b, c, d, s, hm1, e1, e2, ec, es⟩ := made_parts x1 x2 x3 x4 x5 x6 hx6
  obtain ⟨e', a', b', c', d', s', hm2, e1', e2', ec', es'⟩ := made_parts z1 z2 z3 z4 z5 z6 hz6
  have m1 := ovR_30 x1 x2 x3 x4 x5 x6 hx2 hx3 hx4 hx5 11
  have m2 := ovR_30 z1 z2 z3 z4 z5 z6 hz2 hz3 hz4 hz5 11
  rw [hm1] at m1
  rw [hm2] at m2
  have p1 : ∀ σ, (envT tR).ov 22 [sup e a b c d s] 0 σ = some (.tuple #[L (bys (encL e a b c d s)) 128 1 1, .int .i64 0], σ) := fun σ => by rw [ovR_22 _ _ _ _ _ _ (by omega) (by omega), encV_ok e a b c d s e1 e2 ec]
  have p2 : ∀ σ, (envT tR).ov 22 [sup e' a' b' c' d' s'] 0 σ = some (.tuple #[L (bys (encL e' a' b' c' d' s')) 128 1 1, .int .i64 0], σ) := fun σ => by rw [ovR_22 _ _ _ _ _ _ (by omega) (by omega), encV_ok e' a' b' c' d' s' e1' e2' ec']
  have d1 : ∀ σ, (envT tR).ov 25 [L (List.append (bys (encL e a b c d s)) (bys more)) (128 + more.length) 1 15] 0 σ = some (.tuple #[sup e a b c d s, .int .i64 0], σ) := fun σ => (by rw [show List.append (bys (encL e a b c d s)) (bys more) = bys (encL e a b c d s ++ more) from bys_app _ _, ovR_25g _ _ (by rw [List.length_append, encL_len]) (by omega), dec_app _ _ (encL_len _ _ _ _ _ _), dec_enc e a b c d s e1 e2 ec es])
  have t1 : ∀ σ, (envT tR).ov 16 [cfg a b c d s] 0 σ = some (.tuple #[.string (textS a b c d s), .int .i64 0], σ) := fun σ => by rw [ovR_16 _ _ _ _ _ (by omega) (by omega), txtV_ok ec]
  have t2 : ∀ σ, (envT tR).ov 16 [cfg a' b' c' d' s'] 0 σ = some (.tuple #[.string (textS a' b' c' d' s'), .int .i64 0], σ) := fun σ => by rw [ovR_16 _ _ _ _ _ (by omega) (by omega), txtV_ok ec']
  have pa : ∀ σ, (envT tR).ov 18 [.string (textS a b c d s)] 0 σ = some (.tuple #[cfg a b c d s, .int .i64 0], σ) := fun σ => by rw [ovR_18 _ (tsize ec es), par_text a b c d s ec es]
  have ck : ((bif chk a b c d s then (0 : Int) else 2) != 0) = false := by rw [ec]; rfl
  have n1 : ∀ σ, runA Tryz.prog 0 (binOp .neq 36 (sup e a b c d s) (sup e a b c d s)) σ = some (.bool false, σ) := fun σ => by rw [neSup 36 (.inl rfl), eqS_self]; rfl
  have n2 : ∀ σ, runA Tryz.prog 0 (binOp .neq 24 (cfg a b c d s) (cfg a b c d s)) σ = some (.bool false, σ) := fun σ => by rw [neCfg]; simp
  have s1 := strB (encL e a b c d s)
  have s2 := strB (encL e' a' b' c' d' s')
  by_cases hcf : a = a' ∧ b = b' ∧ c = c' ∧ d = d' ∧ s = s'
  · obtain ⟨rfl, rfl, rfl, rfl, rfl⟩ := hcf
    have e3 : ∀ k σ, runA Tryz.prog k (binOp .eql 24 (cfg a b c d s) (cfg a b c d s)) σ = some (.bool true, σ) := fun k σ => by rw [eqCfg]; simp
    by_cases hee : e = e'
    · subst hee
      refine (loop6 (encL e a b c d s) (encL_len _ _ _ _ _ _) 128 0 (wB_l true true true true x1 x2 x3 x4 x5 x6 z1 z2 z3 z4 z5 z6 e a b c d s e a b c d s (textS a b c d s) (textS a b c d s) (sB (encL e a b c d s)) (sB (encL e a b c d s)) (bys (encL e a b c d s)) (bys (encL e a b c d s)) (bys more) more.length ) (SB (List.append (bys (encL e a b c d s)) (bys more)).length x1 x2 x3 x4 x5 x6 z1 z2 z3 z4 z5 z6 e a b c d s e a b c d s) rfl).elim fun w' h => h.elim fun σE lo => ?_
      exact bk_l_eq x1 x2 x3 x4 x5 x6 z1 z2 z3 z4 z5 z6 e a b c d s e a b c d s (textS a b c d s) (textS a b c d s) (sB (encL e a b c d s)) (sB (encL e a b c d s)) (bys (encL e a b c d s)) (bys (encL e a b c d s)) (bys more) more.length w' σE (decide_eq_false (by omega)) m1 m2 p1 p2 d1 t1 t2 pa ck (n1 _) (n2 _) s1 s2 (by rw [sB_eq]; exact beq_self_eq_true _) (by rw [eqSup 36 (.inl rfl), eqS_self]) (beq_self_eq_true _) (e3 _ _) lo hm
    · have hb : (encL e a b c d s == encL e' a b c d s) = false := beq_eq_false_iff_ne.2 fun h => hee (enc_inj e1 e2 ec es e1' e2' ec' es' h).1
      refine (loop6 (encL e a b c d s) (encL_len _ _ _ _ _ _) 128 0 (wB_l false false true true x1 x2 x3 x4 x5 x6 z1 z2 z3 z4 z5 z6 e a b c d s e' a b c d s (textS a b c d s) (textS a b c d s) (sB (encL e a b c d s)) (sB (encL e' a b c d s)) (bys (encL e a b c d s)) (bys (encL e' a b c d s)) (bys more) more.length ) (SB (List.append (bys (encL e a b c d s)) (bys more)).length x1 x2 x3 x4 x5 x6 z1 z2 z3 z4 z5 z6 e a b c d s e' a b c d s) rfl).elim fun w' h => h.elim fun σE lo => ?_
      exact bk_l_cf x1 x2 x3 x4 x5 x6 z1 z2 z3 z4 z5 z6 e a b c d s e' a b c d s (textS a b c d s) (textS a b c d s) (sB (encL e a b c d s)) (sB (encL e' a b c d s)) (bys (encL e a b c d s)) (bys (encL e' a b c d s)) (bys more) more.length w' σE (decide_eq_false (by omega)) m1 m2 p1 p2 d1 t1 t2 pa ck (n1 _) (n2 _) s1 s2 (by rw [sB_eq]; exact hb) (by rw [eqSup 36 (.inl rfl), eqS, beq_eq_false_iff_ne.2 (show (e : Int) ≠ e' by omega)]; rfl) (beq_self_eq_true _) (e3 _ _) lo hm
  · have hb : (encL e a b c d s == encL e' a' b' c' d' s') = false := beq_eq_false_iff_ne.2 fun h => hcf (enc_inj e1 e2 ec es e1' e2' ec' es' h).2
    have ht : ((textS a b c d s).toList == (textS a' b' c' d' s').toList) = false := beq_eq_false_iff_ne.2 fun h => hcf (text_inj ec es ec' es' (ba_ext (by rw [← ByteArray.toList_eq, ← ByteArray.toList_eq]; exact h)))
    have hi : (((a : Int) == a') && (((b : Int) == b') && (((c : Int) == c') && (((d : Int) == d') && (((s : Int) == s') && true))))) = false := by
      rw [Bool.eq_false_iff]
      intro h
      simp only [Bool.and_eq_true, beq_iff_eq, and_true] at h
      exact hcf (by omega)
    refine (loop6 (encL e a b c d s) (encL_len _ _ _ _ _ _) 128 0 (wB_l false false false false x1 x2 x3 x4 x5 x6 z1 z2 z3 z4 z5 z6 e a b c d s e' a' b' c' d' s' (textS a b c d s) (textS a' b' c' d' s') (sB (encL e a b c d s)) (sB (encL e' a' b' c' d' s')) (bys (encL e a b c d s)) (bys (encL e' a' b' c' d' s')) (bys more) more.length ) (SB (List.append (bys (encL e a b c d s)) (bys more)).length x1 x2 x3 x4 x5 x6 z1 z2 z3 z4 z5 z6 e a b c d s e' a' b' c' d' s') rfl).elim fun w' h => h.elim fun σE lo => ?_
    exact bk_l_ne x1 x2 x3 x4 x5 x6 z1 z2 z3 z4 z5 z6 e a b c d s e' a' b' c' d' s' (textS a b c d s) (textS a' b' c' d' s') (sB (encL e a b c d s)) (sB (encL e' a' b' c' d' s')) (bys (encL e a b c d s)) (bys (encL e' a' b' c' d' s')) (bys more) more.length w' σE (decide_eq_false (by omega)) m1 m2 p1 p2 d1 t1 t2 pa ck (n1 _) (n2 _) s1 s2 (by rw [sB_eq]; exact hb) (by rw [eqSup 36 (.inl rfl), eqS, hi, Bool.false_and, Bool.and_false]) ht (by rw [eqCfg, hi]) lo hm
theorem law6_n (x1 x2 x3 x4 x5 x6 z1 z2 z3 z4 z5 z6 : Nat) (hx2 : x2 < 65536) (hx3 : x3 < 65536) (hx4 : x4 < 65536) (hx5 : x5 < 256) (hx6 : x6 < 18446744073709551616) (hz2 : z2 < 65536) (hz3 : z3 < 65536) (hz4 : z4 < 65536) (hz5 : z5 < 256) (hz6 : z6 < 18446744073709551616) :
    Pure Tryz.prog 9 tabs 6 [drf x1 x2 x3 x4 x5 x6, drf z1 z2 z3 z4 z5 z6, .slice none 0 0] (.bool true) := by
  obtain ⟨e, a, b, c, d, s, hm1, e1, e2, ec, es⟩ := made_parts x1 x2 x3 x4 x5 x6 hx6
  obtain ⟨e', a', b', c', d', s', hm2, e1', e2', ec', es'⟩ := made_parts z1 z2 z3 z4 z5 z6 hz6
  have m1 := ovR_30 x1 x2 x3 x4 x5 x6 hx2 hx3 hx4 hx5 11
  have m2 := ovR_30 z1 z2 z3 z4 z5 z6 hz2 hz3 hz4 hz5 11
  rw [hm1] at m1
  rw [hm2] at m2
  have p1 : ∀ σ, (envT tR).ov 22 [sup e a b c d s] 0 σ = some (.tuple #[L (bys (encL e a b c d s)) 128 1 1, .int .i64 0], σ) := fun σ => by rw [ovR_22 _ _ _ _ _ _ (by omega) (by omega), encV_ok e a b c d s e1 e2 ec]
  have p2 : ∀ σ, (envT tR).ov 22 [sup e' a' b' c' d' s'] 0 σ = some (.tuple #[L (bys (encL e' a' b' c' d' s')) 128 1 1, .int .i64 0], σ) := fun σ => by rw [ovR_22 _ _ _ _ _ _ (by omega) (by omega), encV_ok e' a' b' c' d' s' e1' e2' ec']
  have d1 : ∀ σ, (envT tR).ov 25 [L (List.append (bys (encL e a b c d s)) []) 128 1 15] 0 σ = some (.tuple #[sup e a b c d s, .int .i64 0], σ) := fun σ => (by rw [show List.append (bys (encL e a b c d s)) [] = bys (encL e a b c d s) from List.append_nil _, ovR_25g _ _ (encL_len _ _ _ _ _ _) (by omega), dec_enc e a b c d s e1 e2 ec es])
  have t1 : ∀ σ, (envT tR).ov 16 [cfg a b c d s] 0 σ = some (.tuple #[.string (textS a b c d s), .int .i64 0], σ) := fun σ => by rw [ovR_16 _ _ _ _ _ (by omega) (by omega), txtV_ok ec]
  have t2 : ∀ σ, (envT tR).ov 16 [cfg a' b' c' d' s'] 0 σ = some (.tuple #[.string (textS a' b' c' d' s'), .int .i64 0], σ) := fun σ => by rw [ovR_16 _ _ _ _ _ (by omega) (by omega), txtV_ok ec']
  have pa : ∀ σ, (envT tR).ov 18 [.string (textS a b c d s)] 0 σ = some (.tuple #[cfg a b c d s, .int .i64 0], σ) := fun σ => by rw [ovR_18 _ (tsize ec es), par_text a b c d s ec es]
  have ck : ((bif chk a b c d s then (0 : Int) else 2) != 0) = false := by rw [ec]; rfl
  have n1 : ∀ σ, runA Tryz.prog 0 (binOp .neq 36 (sup e a b c d s) (sup e a b c d s)) σ = some (.bool false, σ) := fun σ => by rw [neSup 36 (.inl rfl), eqS_self]; rfl
  have n2 : ∀ σ, runA Tryz.prog 0 (binOp .neq 24 (cfg a b c d s) (cfg a b c d s)) σ = some (.bool false, σ) := fun σ => by rw [neCfg]; simp
  have s1 := strB (encL e a b c d s)
  have s2 := strB (encL e' a' b' c' d' s')
  by_cases hcf : a = a' ∧ b = b' ∧ c = c' ∧ d = d' ∧ s = s'
  · obtain ⟨rfl, rfl, rfl, rfl, rfl⟩ := hcf
    have e3 : ∀ k σ, runA Tryz.prog k (binOp .eql 24 (cfg a b c d s) (cfg a b c d s)) σ = some (.bool true, σ) := fun k σ => by rw [eqCfg]; simp
    by_cases hee : e = e'
    · subst hee
      refine (loop6 (encL e a b c d s) (encL_len _ _ _ _ _ _) 128 0 (wB_n true true true true x1 x2 x3 x4 x5 x6 z1 z2 z3 z4 z5 z6 e a b c d s e a b c d s (textS a b c d s) (textS a b c d s) (sB (encL e a b c d s)) (sB (encL e a b c d s)) (bys (encL e a b c d s)) (bys (encL e a b c d s)) ) (SB (List.append (bys (encL e a b c d s)) []).length x1 x2 x3 x4 x5 x6 z1 z2 z3 z4 z5 z6 e a b c d s e a b c d s) rfl).elim fun w' h => h.elim fun σE lo => ?_
      exact bk_n_eq x1 x2 x3 x4 x5 x6 z1 z2 z3 z4 z5 z6 e a b c d s e a b c d s (textS a b c d s) (textS a b c d s) (sB (encL e a b c d s)) (sB (encL e a b c d s)) (bys (encL e a b c d s)) (bys (encL e a b c d s)) w' σE m1 m2 p1 p2 d1 t1 t2 pa ck (n1 _) (n2 _) s1 s2 (by rw [sB_eq]; exact beq_self_eq_true _) (by rw [eqSup 36 (.inl rfl), eqS_self]) (beq_self_eq_true _) (e3 _ _) lo
    · have hb : (encL e a b c d s == encL e' a b c d s) = false := beq_eq_false_iff_ne.2 fun h => hee (enc_inj e1 e2 ec es e1' e2' ec' es' h).1
      refine (loop6 (encL e a b c d s) (encL_len _ _ _ _ _ _) 128 0 (wB_n false false true true x1 x2 x3 x4 x5 x6 z1 z2 z3 z4 z5 z6 e a b c d s e' a b c d s (textS a b c d s) (textS a b c d s) (sB (encL e a b c d s)) (sB (encL e' a b c d s)) (bys (encL e a b c d s)) (bys (encL e' a b c d s)) ) (SB (List.append (bys (encL e a b c d s)) []).length x1 x2 x3 x4 x5 x6 z1 z2 z3 z4 z5 z6 e a b c d s e' a b c d s) rfl).elim fun w' h => h.elim fun σE lo => ?_
      exact bk_n_cf x1 x2 x3 x4 x5 x6 z1 z2 z3 z4 z5 z6 e a b c d s e' a b c d s (textS a b c d s) (textS a b c d s) (sB (encL e a b c d s)) (sB (encL e' a b c d s)) (bys (encL e a b c d s)) (bys (encL e' a b c d s)) w' σE m1 m2 p1 p2 d1 t1 t2 pa ck (n1 _) (n2 _) s1 s2 (by rw [sB_eq]; exact hb) (by rw [eqSup 36 (.inl rfl), eqS, beq_eq_false_iff_ne.2 (show (e : Int) ≠ e' by omega)]; rfl) (beq_self_eq_true _) (e3 _ _) lo
  · have hb : (encL e a b c d s == encL e' a' b' c' d' s') = false := beq_eq_false_iff_ne.2 fun h => hcf (enc_inj e1 e2 ec es e1' e2' ec' es' h).2
    have ht : ((textS a b c d s).toList == (textS a' b' c' d' s').toList) = false := beq_eq_false_iff_ne.2 fun h => hcf (text_inj ec es ec' es' (ba_ext (by rw [← ByteArray.toList_eq, ← ByteArray.toList_eq]; exact h)))
    have hi : (((a : Int) == a') && (((b : Int) == b') && (((c : Int) == c') && (((d : Int) == d') && (((s : Int) == s') && true))))) = false := by
      rw [Bool.eq_false_iff]
      intro h
      simp only [Bool.and_eq_true, beq_iff_eq, and_true] at h
      exact hcf (by omega)
    refine (loop6 (encL e a b c d s) (encL_len _ _ _ _ _ _) 128 0 (wB_n false false false false x1 x2 x3 x4 x5 x6 z1 z2 z3 z4 z5 z6 e a b c d s e' a' b' c' d' s' (textS a b c d s) (textS a' b' c' d' s') (sB (encL e a b c d s)) (sB (encL e' a' b' c' d' s')) (bys (encL e a b c d s)) (bys (encL e' a' b' c' d' s')) ) (SB (List.append (bys (encL e a b c d s)) []).length x1 x2 x3 x4 x5 x6 z1 z2 z3 z4 z5 z6 e a b c d s e' a' b' c' d' s') rfl).elim fun w' h => h.elim fun σE lo => ?_
    exact bk_n_ne x1 x2 x3 x4 x5 x6 z1 z2 z3 z4 z5 z6 e a b c d s e' a' b' c' d' s' (textS a b c d s) (textS a' b' c' d' s') (sB (encL e a b c d s)) (sB (encL e' a' b' c' d' s')) (bys (encL e a b c d s)) (bys (encL e' a' b' c' d' s')) w' σE m1 m2 p1 p2 d1 t1 t2 pa ck (n1 _) (n2 _) s1 s2 (by rw [sB_eq]; exact hb) (by rw [eqSup 36 (.inl rfl), eqS, hi, Bool.false_and, Bool.and_false]) ht (by rw [eqCfg, hi]) lo
theorem law6_v (x1 x2 x3 x4 x5 x6 z1 z2 z3 z4 z5 z6 : Nat) (hx2 : x2 < 65536) (hx3 : x3 < 65536) (hx4 : x4 < 65536) (hx5 : x5 < 256) (hx6 : x6 < 18446744073709551616) (hz2 : z2 < 65536) (hz3 : z3 < 65536) (hz4 : z4 < 65536) (hz5 : z5 < 256) (hz6 : z6 < 18446744073709551616) :
    Pure Tryz.prog 9 tabs 6 [drf x1 x2 x3 x4 x5 x6, drf z1 z2 z3 z4 z5 z6, .slice (some void) 0 0] (.bool true) := by
  obtain ⟨e, a, b, c, d, s, hm1, e1, e2, ec, es⟩ := made_parts x1 x2 x3 x4 x5 x6 hx6
  obtain ⟨e', a', b', c', d', s', hm2, e1', e2', ec', es'⟩ := made_parts z1 z2 z3 z4 z5 z6 hz6
  have m1 := ovR_30 x1 x2 x3 x4 x5 x6 hx2 hx3 hx4 hx5 11
  have m2 := ovR_30 z1 z2 z3 z4 z5 z6 hz2 hz3 hz4 hz5 11
  rw [hm1] at m1
  rw [hm2] at m2
  have p1 : ∀ σ, (envT tR).ov 22 [sup e a b c d s] 0 σ = some (.tuple #[L (bys (encL e a b c d s)) 128 1 1, .int .i64 0], σ) := fun σ => by rw [ovR_22 _ _ _ _ _ _ (by omega) (by omega), encV_ok e a b c d s e1 e2 ec]
  have p2 : ∀ σ, (envT tR).ov 22 [sup e' a' b' c' d' s'] 0 σ = some (.tuple #[L (bys (encL e' a' b' c' d' s')) 128 1 1, .int .i64 0], σ) := fun σ => by rw [ovR_22 _ _ _ _ _ _ (by omega) (by omega), encV_ok e' a' b' c' d' s' e1' e2' ec']
  have d1 : ∀ σ, (envT tR).ov 25 [L (List.append (bys (encL e a b c d s)) []) 128 1 15] 0 σ = some (.tuple #[sup e a b c d s, .int .i64 0], σ) := fun σ => (by rw [show List.append (bys (encL e a b c d s)) [] = bys (encL e a b c d s) from List.append_nil _, ovR_25g _ _ (encL_len _ _ _ _ _ _) (by omega), dec_enc e a b c d s e1 e2 ec es])
  have t1 : ∀ σ, (envT tR).ov 16 [cfg a b c d s] 0 σ = some (.tuple #[.string (textS a b c d s), .int .i64 0], σ) := fun σ => by rw [ovR_16 _ _ _ _ _ (by omega) (by omega), txtV_ok ec]
  have t2 : ∀ σ, (envT tR).ov 16 [cfg a' b' c' d' s'] 0 σ = some (.tuple #[.string (textS a' b' c' d' s'), .int .i64 0], σ) := fun σ => by rw [ovR_16 _ _ _ _ _ (by omega) (by omega), txtV_ok ec']
  have pa : ∀ σ, (envT tR).ov 18 [.string (textS a b c d s)] 0 σ = some (.tuple #[cfg a b c d s, .int .i64 0], σ) := fun σ => by rw [ovR_18 _ (tsize ec es), par_text a b c d s ec es]
  have ck : ((bif chk a b c d s then (0 : Int) else 2) != 0) = false := by rw [ec]; rfl
  have n1 : ∀ σ, runA Tryz.prog 0 (binOp .neq 36 (sup e a b c d s) (sup e a b c d s)) σ = some (.bool false, σ) := fun σ => by rw [neSup 36 (.inl rfl), eqS_self]; rfl
  have n2 : ∀ σ, runA Tryz.prog 0 (binOp .neq 24 (cfg a b c d s) (cfg a b c d s)) σ = some (.bool false, σ) := fun σ => by rw [neCfg]; simp
  have s1 := strB (encL e a b c d s)
  have s2 := strB (encL e' a' b' c' d' s')
  by_cases hcf : a = a' ∧ b = b' ∧ c = c' ∧ d = d' ∧ s = s'
  · obtain ⟨rfl, rfl, rfl, rfl, rfl⟩ := hcf
    have e3 : ∀ k σ, runA Tryz.prog k (binOp .eql 24 (cfg a b c d s) (cfg a b c d s)) σ = some (.bool true, σ) := fun k σ => by rw [eqCfg]; simp
    by_cases hee : e = e'
    · subst hee
      refine (loop6 (encL e a b c d s) (encL_len _ _ _ _ _ _) 128 0 (wB_v true true true true x1 x2 x3 x4 x5 x6 z1 z2 z3 z4 z5 z6 e a b c d s e a b c d s (textS a b c d s) (textS a b c d s) (sB (encL e a b c d s)) (sB (encL e a b c d s)) (bys (encL e a b c d s)) (bys (encL e a b c d s)) ) (SB (List.append (bys (encL e a b c d s)) []).length x1 x2 x3 x4 x5 x6 z1 z2 z3 z4 z5 z6 e a b c d s e a b c d s) rfl).elim fun w' h => h.elim fun σE lo => ?_
      exact bk_v_eq x1 x2 x3 x4 x5 x6 z1 z2 z3 z4 z5 z6 e a b c d s e a b c d s (textS a b c d s) (textS a b c d s) (sB (encL e a b c d s)) (sB (encL e a b c d s)) (bys (encL e a b c d s)) (bys (encL e a b c d s)) w' σE m1 m2 p1 p2 d1 t1 t2 pa ck (n1 _) (n2 _) s1 s2 (by rw [sB_eq]; exact beq_self_eq_true _) (by rw [eqSup 36 (.inl rfl), eqS_self]) (beq_self_eq_true _) (e3 _ _) lo
    · have hb : (encL e a b c d s == encL e' a b c d s) = false := beq_eq_false_iff_ne.2 fun h => hee (enc_inj e1 e2 ec es e1' e2' ec' es' h).1
      refine (loop6 (encL e a b c d s) (encL_len _ _ _ _ _ _) 128 0 (wB_v false false true true x1 x2 x3 x4 x5 x6 z1 z2 z3 z4 z5 z6 e a b c d s e' a b c d s (textS a b c d s) (textS a b c d s) (sB (encL e a b c d s)) (sB (encL e' a b c d s)) (bys (encL e a b c d s)) (bys (encL e' a b c d s)) ) (SB (List.append (bys (encL e a b c d s)) []).length x1 x2 x3 x4 x5 x6 z1 z2 z3 z4 z5 z6 e a b c d s e' a b c d s) rfl).elim fun w' h => h.elim fun σE lo => ?_
      exact bk_v_cf x1 x2 x3 x4 x5 x6 z1 z2 z3 z4 z5 z6 e a b c d s e' a b c d s (textS a b c d s) (textS a b c d s) (sB (encL e a b c d s)) (sB (encL e' a b c d s)) (bys (encL e a b c d s)) (bys (encL e' a b c d s)) w' σE m1 m2 p1 p2 d1 t1 t2 pa ck (n1 _) (n2 _) s1 s2 (by rw [sB_eq]; exact hb) (by rw [eqSup 36 (.inl rfl), eqS, beq_eq_false_iff_ne.2 (show (e : Int) ≠ e' by omega)]; rfl) (beq_self_eq_true _) (e3 _ _) lo
  · have hb : (encL e a b c d s == encL e' a' b' c' d' s') = false := beq_eq_false_iff_ne.2 fun h => hcf (enc_inj e1 e2 ec es e1' e2' ec' es' h).2
    have ht : ((textS a b c d s).toList == (textS a' b' c' d' s').toList) = false := beq_eq_false_iff_ne.2 fun h => hcf (text_inj ec es ec' es' (ba_ext (by rw [← ByteArray.toList_eq, ← ByteArray.toList_eq]; exact h)))
    have hi : (((a : Int) == a') && (((b : Int) == b') && (((c : Int) == c') && (((d : Int) == d') && (((s : Int) == s') && true))))) = false := by
      rw [Bool.eq_false_iff]
      intro h
      simp only [Bool.and_eq_true, beq_iff_eq, and_true] at h
      exact hcf (by omega)
    refine (loop6 (encL e a b c d s) (encL_len _ _ _ _ _ _) 128 0 (wB_v false false false false x1 x2 x3 x4 x5 x6 z1 z2 z3 z4 z5 z6 e a b c d s e' a' b' c' d' s' (textS a b c d s) (textS a' b' c' d' s') (sB (encL e a b c d s)) (sB (encL e' a' b' c' d' s')) (bys (encL e a b c d s)) (bys (encL e' a' b' c' d' s')) ) (SB (List.append (bys (encL e a b c d s)) []).length x1 x2 x3 x4 x5 x6 z1 z2 z3 z4 z5 z6 e a b c d s e' a' b' c' d' s') rfl).elim fun w' h => h.elim fun σE lo => ?_
    exact bk_v_ne x1 x2 x3 x4 x5 x6 z1 z2 z3 z4 z5 z6 e a b c d s e' a' b' c' d' s' (textS a b c d s) (textS a' b' c' d' s') (sB (encL e a b c d s)) (sB (encL e' a' b' c' d' s')) (bys (encL e a b c d s)) (bys (encL e' a' b' c' d' s')) w' σE m1 m2 p1 p2 d1 t1 t2 pa ck (n1 _) (n2 _) s1 s2 (by rw [sB_eq]; exact hb) (by rw [eqSup 36 (.inl rfl), eqS, hi, Bool.false_and, Bool.and_false]) ht (by rw [eqCfg, hi]) lo
theorem law6_l' (x1 x2 x3 x4 x5 x6 z1 z2 z3 z4 z5 z6 : Int) (more : List UInt8) (x10 : IntKind.u64.min ≤ x1) (_ : x1 ≤ IntKind.u64.max) (x20 : IntKind.u16.min ≤ x2) (_ : x2 ≤ IntKind.u16.max) (x30 : IntKind.u16.min ≤ x3) (_ : x3 ≤ IntKind.u16.max) (x40 : IntKind.u16.min ≤ x4) (_ : x4 ≤ IntKind.u16.max) (x50 : IntKind.u8.min ≤ x5) (_ : x5 ≤ IntKind.u8.max) (x60 : IntKind.u64.min ≤ x6) (_ : x6 ≤ IntKind.u64.max) (z10 : IntKind.u64.min ≤ z1) (_ : z1 ≤ IntKind.u64.max) (z20 : IntKind.u16.min ≤ z2) (_ : z2 ≤ IntKind.u16.max) (z30 : IntKind.u16.min ≤ z3) (_ : z3 ≤ IntKind.u16.max) (z40 : IntKind.u16.min ≤ z4) (_ : z4 ≤ IntKind.u16.max) (z50 : IntKind.u8.min ≤ z5) (_ : z5 ≤ IntKind.u8.max) (z60 : IntKind.u64.min ≤ z6) (_ : z6 ≤ IntKind.u64.max) (_ : more.length ≠ 0) : Pure Tryz.prog 9 tabs 6 [drf x1 x2 x3 x4 x5 x6, drf z1 z2 z3 z4 z5 z6, L (bys more) more.length 1 0] (.bool true) := by
  have k0 : IntKind.u64.min = 0 := rfl
  have k1 : IntKind.u16.min = 0 := rfl
  have k2 : IntKind.u16.max = 65535 := rfl
  have k3 : IntKind.u8.min = 0 := rfl
  have k4 : IntKind.u8.max = 255 := rfl
  have k5 : IntKind.u64.max = 18446744073709551615 := rfl
  by_cases hm : more.length ≤ 100
  case neg => exact bk_big x1 x2 x3 x4 x5 x6 z1 z2 z3 z4 z5 z6 (bys more) more.length (decide_eq_true (by omega))
  have := law6_l x1.toNat x2.toNat x3.toNat x4.toNat x5.toNat x6.toNat z1.toNat z2.toNat z3.toNat z4.toNat z5.toNat z6.toNat more hm (by omega) (by omega) (by omega) (by omega) (by omega) (by omega) (by omega) (by omega) (by omega) (by omega)
  rw [Int.toNat_of_nonneg (by omega), Int.toNat_of_nonneg (by omega), Int.toNat_of_nonneg (by omega), Int.toNat_of_nonneg (by omega), Int.toNat_of_nonneg (by omega), Int.toNat_of_nonneg (by omega), Int.toNat_of_nonneg (by omega), Int.toNat_of_nonneg (by omega), Int.toNat_of_nonneg (by omega), Int.toNat_of_nonneg (by omega), Int.toNat_of_nonneg (by omega), Int.toNat_of_nonneg (by omega)] at this
  exact this
theorem law6_n' (x1 x2 x3 x4 x5 x6 z1 z2 z3 z4 z5 z6 : Int) (x10 : IntKind.u64.min ≤ x1) (_ : x1 ≤ IntKind.u64.max) (x20 : IntKind.u16.min ≤ x2) (_ : x2 ≤ IntKind.u16.max) (x30 : IntKind.u16.min ≤ x3) (_ : x3 ≤ IntKind.u16.max) (x40 : IntKind.u16.min ≤ x4) (_ : x4 ≤ IntKind.u16.max) (x50 : IntKind.u8.min ≤ x5) (_ : x5 ≤ IntKind.u8.max) (x60 : IntKind.u64.min ≤ x6) (_ : x6 ≤ IntKind.u64.max) (z10 : IntKind.u64.min ≤ z1) (_ : z1 ≤ IntKind.u64.max) (z20 : IntKind.u16.min ≤ z2) (_ : z2 ≤ IntKind.u16.max) (z30 : IntKind.u16.min ≤ z3) (_ : z3 ≤ IntKind.u16.max) (z40 : IntKind.u16.min ≤ z4) (_ : z4 ≤ IntKind.u16.max) (z50 : IntKind.u8.min ≤ z5) (_ : z5 ≤ IntKind.u8.max) (z60 : IntKind.u64.min ≤ z6) (_ : z6 ≤ IntKind.u64.max) : Pure Tryz.prog 9 tabs 6 [drf x1 x2 x3 x4 x5 x6, drf z1 z2 z3 z4 z5 z6, .slice none 0 0] (.bool true) := by
  have k0 : IntKind.u64.min = 0 := rfl
  have k1 : IntKind.u16.min = 0 := rfl
  have k2 : IntKind.u16.max = 65535 := rfl
  have k3 : IntKind.u8.min = 0 := rfl
  have k4 : IntKind.u8.max = 255 := rfl
  have k5 : IntKind.u64.max = 18446744073709551615 := rfl
  have := law6_n x1.toNat x2.toNat x3.toNat x4.toNat x5.toNat x6.toNat z1.toNat z2.toNat z3.toNat z4.toNat z5.toNat z6.toNat (by omega) (by omega) (by omega) (by omega) (by omega) (by omega) (by omega) (by omega) (by omega) (by omega)
  rw [Int.toNat_of_nonneg (by omega), Int.toNat_of_nonneg (by omega), Int.toNat_of_nonneg (by omega), Int.toNat_of_nonneg (by omega), Int.toNat_of_nonneg (by omega), Int.toNat_of_nonneg (by omega), Int.toNat_of_nonneg (by omega), Int.toNat_of_nonneg (by omega), Int.toNat_of_nonneg (by omega), Int.toNat_of_nonneg (by omega), Int.toNat_of_nonneg (by omega), Int.toNat_of_nonneg (by omega)] at this
  exact this
theorem law6_v' (x1 x2 x3 x4 x5 x6 z1 z2 z3 z4 z5 z6 : Int) (x10 : IntKind.u64.min ≤ x1) (_ : x1 ≤ IntKind.u64.max) (x20 : IntKind.u16.min ≤ x2) (_ : x2 ≤ IntKind.u16.max) (x30 : IntKind.u16.min ≤ x3) (_ : x3 ≤ IntKind.u16.max) (x40 : IntKind.u16.min ≤ x4) (_ : x4 ≤ IntKind.u16.max) (x50 : IntKind.u8.min ≤ x5) (_ : x5 ≤ IntKind.u8.max) (x60 : IntKind.u64.min ≤ x6) (_ : x6 ≤ IntKind.u64.max) (z10 : IntKind.u64.min ≤ z1) (_ : z1 ≤ IntKind.u64.max) (z20 : IntKind.u16.min ≤ z2) (_ : z2 ≤ IntKind.u16.max) (z30 : IntKind.u16.min ≤ z3) (_ : z3 ≤ IntKind.u16.max) (z40 : IntKind.u16.min ≤ z4) (_ : z4 ≤ IntKind.u16.max) (z50 : IntKind.u8.min ≤ z5) (_ : z5 ≤ IntKind.u8.max) (z60 : IntKind.u64.min ≤ z6) (_ : z6 ≤ IntKind.u64.max) : Pure Tryz.prog 9 tabs 6 [drf x1 x2 x3 x4 x5 x6, drf z1 z2 z3 z4 z5 z6, .slice (some void) 0 0] (.bool true) := by
  have k0 : IntKind.u64.min = 0 := rfl
  have k1 : IntKind.u16.min = 0 := rfl
  have k2 : IntKind.u16.max = 65535 := rfl
  have k3 : IntKind.u8.min = 0 := rfl
  have k4 : IntKind.u8.max = 255 := rfl
  have k5 : IntKind.u64.max = 18446744073709551615 := rfl
  have := law6_v x1.toNat x2.toNat x3.toNat x4.toNat x5.toNat x6.toNat z1.toNat z2.toNat z3.toNat z4.toNat z5.toNat z6.toNat (by omega) (by omega) (by omega) (by omega) (by omega) (by omega) (by omega) (by omega) (by omega) (by omega)
  rw [Int.toNat_of_nonneg (by omega), Int.toNat_of_nonneg (by omega), Int.toNat_of_nonneg (by omega), Int.toNat_of_nonneg (by omega), Int.toNat_of_nonneg (by omega), Int.toNat_of_nonneg (by omega), Int.toNat_of_nonneg (by omega), Int.toNat_of_nonneg (by omega), Int.toNat_of_nonneg (by omega), Int.toNat_of_nonneg (by omega), Int.toNat_of_nonneg (by omega), Int.toNat_of_nonneg (by omega)] at this
  exact this

end Go.Proofs.YtcjjlajpbakaoaaGreatDoor
