/-
  SUPERBLOCK (chapter 36): SuperReads: the law.
-/
import Derived.Test.YtcjjlajpbakaoaaGreatDoorD36bo
import Derived.Test.YtcjjlajpbakaoaaGreatDoorD36bd
namespace Go.Proofs.YtcjjlajpbakaoaaGreatDoor
open Go.Va

theorem ovR_25 (l : List UInt8) (hl : l.length < 1000000) (lim : Nat) (σ : AS) : (envT tR).ov 25 [L (bys l) l.length 1 0] lim σ = some (decO l, σ) := by
  refine envK rfl rfl (show [strip (L (bys l) l.length 1 0)] = [L (bys l) l.length 1 0] by rw [strip_le (by omega)]) (flat_args1 (by omega)) ?_
  unfold tR
  rw [pfT_eq]
  unfold k25
  dsimp only
  rw [asB_L (by omega) (by omega)]
  dsimp only
  rw [show Nat.blt l.length 1000000 = true from blt_iff.2 hl]
  rfl
theorem ovR_18 (s : ByteArray) (hs : s.size < 100000) (lim : Nat) (σ : AS) : (envT tR).ov 18 [.string s] lim σ = some (parV s, σ) := by
  refine envK rfl rfl (show _ = [Value.string s] from rfl) rfl ?_
  unfold tR
  rw [pfT_ne rfl, pfT_eq]
  unfold k18
  dsimp only
  rw [blt_iff.2 hs]
  rfl
theorem ovR_16 (a b c d s : Int) (s0 : 0 ≤ s) (s1 : s < 18446744073709551616) (lim : Nat) (σ : AS) : (envT tR).ov 16 [cfg a b c d s] lim σ = some (txtV a b c d s, σ) := by
  refine envK rfl rfl (show _ = [cfg a b c d s] from rfl) rfl ?_
  unfold tR
  rw [pfT_ne rfl, pfT_ne rfl, pfT_eq]
  unfold k16 cfg
  dsimp only
  rw [decide_eq_true s0, decide_eq_true s1]
  rfl
theorem ovR_22 (e a b c d s : Int) (s0 : 0 ≤ s) (s1 : s < 18446744073709551616) (lim : Nat) (σ : AS) : (envT tR).ov 22 [sup e a b c d s] lim σ = some (encV e a b c d s, σ) := by
  refine envK rfl rfl (show _ = [sup e a b c d s] from rfl) rfl ?_
  unfold tR t13
  rw [pfT_ne rfl, pfT_ne rfl, pfT_ne rfl, pfT_eq]
  show (bif decide (0 ≤ s) && decide (s < 18446744073709551616) then some (encV e a b c d s) else none) = _
  rw [decide_eq_true s0, decide_eq_true s1]
  rfl
theorem ovRv_18 (s : ByteArray) (hs : s.size < 100000) (lim : Nat) (σ : AS) : (envT tRv).ov 18 [.string s] lim σ = some (parV s, σ) := by
  refine envK rfl rfl (show _ = [Value.string s] from rfl) rfl ?_
  unfold tRv
  rw [pfT_eq]
  unfold k18
  dsimp only
  rw [blt_iff.2 hs]
  rfl
theorem ovRv_16 (a b c d s : Int) (s0 : 0 ≤ s) (s1 : s < 18446744073709551616) (lim : Nat) (σ : AS) : (envT tRv).ov 16 [cfg a b c d s] lim σ = some (txtV a b c d s, σ) := by
  refine envK rfl rfl (show _ = [cfg a b c d s] from rfl) rfl ?_
  unfold tRv
  rw [pfT_ne rfl, pfT_eq]
  unfold k16 cfg
  dsimp only
  rw [decide_eq_true s0, decide_eq_true s1]
  rfl
theorem txtV_ok {a b c d s : Nat} (h : chk a b c d s = true) : txtV a b c d s = .tuple #[.string (textS a b c d s), .int .i64 0] := by
  unfold txtV
  rw [h]
  simp only [Int.toNat_natCast, cond_true]
theorem encV_nat (e a b c d s : Nat) (h1 : 1 ≤ e) (h2 : e ≤ 1099511627776) (hc : chk a b c d s = true) : encV e a b c d s = .tuple #[L (bys (encL e a b c d s)) 128 1 1, .int .i64 0] := by
  have hv : vld e a b c d s = true := by unfold vld; rw [decide_eq_true (show (e : Int) ≥ 1 by omega), decide_eq_true (show (e : Int) ≤ 1099511627776 by omega), hc]; rfl
  unfold encV
  rw [hv]
  simp only [Int.toNat_natCast, cond_true]
theorem law7_l (l : List UInt8) (t : ByteArray) : Pure Tryz.prog 9 tabs 7 [L (bys l) l.length 1 0, .string t] (.bool true) := by
  by_cases hb : (l.length : Int) > 300
  · exact rd_big t (bys l) l.length (decide_eq_true hb)
  have c1 : decide ((l.length : Int) > 300) = false := decide_eq_false hb
  by_cases ht : (t.size : Int) > 300
  · exact rd_bigt t (bys l) l.length c1 (decide_eq_true ht)
  have c2 : decide ((t.size : Int) > 300) = false := decide_eq_false ht
  have d := ovR_25 l (by omega) 0
  have p := ovR_18 t (by omega) 0
  rcases dec_spec l with ⟨e, a, b, c, f, s, h, hl, h1, h2, hc, hs, hE⟩ | h | h | h <;> rw [h] at d <;> rcases par_spec t with h' | ⟨a', b', c', f', s', h', hc', hs', hT⟩ <;> rw [h'] at p
  · have q := ovR_22 e a b c f s (by omega) (by omega) 0
    rw [encV_nat e a b c f s h1 h2 hc] at q
    refine rd_ok_no e a b c f s _ _ t (bys l) _ l.length c1 c2 d p q (decide_eq_false (by omega)) (by rw [hc]; rfl) (strB _) ⟨by omega, by omega⟩ (by rw [show (bys l).take ((128 : Int).toNat * 1) = bys (l.take 128) from bys_take l 128]; exact strB _) ?_
    rw [sB_eq, hE, beq_self_eq_true]; rfl
  · have q := ovR_22 e a b c f s (by omega) (by omega) 0
    rw [encV_nat e a b c f s h1 h2 hc] at q
    have x := ovR_16 a' b' c' f' s' (by omega) (by omega) 0
    rw [txtV_ok hc'] at x
    refine rd_ok_ok e a b c f s a' b' c' f' s' _ _ t _ (bys l) _ l.length c1 c2 d p q (decide_eq_false (by omega)) (by rw [hc]; rfl) (strB _) ⟨by omega, by omega⟩ (by rw [show (bys l).take ((128 : Int).toNat * 1) = bys (l.take 128) from bys_take l 128]; exact strB _) ?_ x (by rw [hT, beq_self_eq_true])
    rw [sB_eq, hE, beq_self_eq_true]; rfl
  · exact rd_13_no t (bys l) l.length c1 c2 d p
  · have x := ovR_16 a' b' c' f' s' (by omega) (by omega) 0
    rw [txtV_ok hc'] at x
    exact rd_13_ok a' b' c' f' s' t _ (bys l) l.length c1 c2 d p x (by rw [hT, beq_self_eq_true])
  · exact rd_8_no t (bys l) l.length c1 c2 d p
  · have x := ovR_16 a' b' c' f' s' (by omega) (by omega) 0
    rw [txtV_ok hc'] at x
    exact rd_8_ok a' b' c' f' s' t _ (bys l) l.length c1 c2 d p x (by rw [hT, beq_self_eq_true])
  · exact rd_12_no t (bys l) l.length c1 c2 d p
  · have x := ovR_16 a' b' c' f' s' (by omega) (by omega) 0
    rw [txtV_ok hc'] at x
    exact rd_12_ok a' b' c' f' s' t _ (bys l) l.length c1 c2 d p x (by rw [hT, beq_self_eq_true])
theorem law7_n (t : ByteArray) : Pure Tryz.prog 9 tabs 7 [.slice none 0 0, .string t] (.bool true) := by
  by_cases ht : (t.size : Int) > 300
  · exact rd_nil_big t (decide_eq_true ht)
  have c2 : decide ((t.size : Int) > 300) = false := decide_eq_false ht
  have p := ovRv_18 t (by omega) 0
  rcases par_spec t with h' | ⟨a', b', c', f', s', h', hc', hs', hT⟩ <;> rw [h'] at p
  · exact rd_nil_no t c2 p
  · have x := ovRv_16 a' b' c' f' s' (by omega) (by omega) 0
    rw [txtV_ok hc'] at x
    exact rd_nil_ok a' b' c' f' s' t _ c2 p x (by rw [hT, beq_self_eq_true])
theorem law7_v (t : ByteArray) : Pure Tryz.prog 9 tabs 7 [.slice (some void) 0 0, .string t] (.bool true) := by
  by_cases ht : (t.size : Int) > 300
  · exact rd_void_big t (decide_eq_true ht)
  have c2 : decide ((t.size : Int) > 300) = false := decide_eq_false ht
  have p := ovRv_18 t (by omega) 0
  rcases par_spec t with h' | ⟨a', b', c', f', s', h', hc', hs', hT⟩ <;> rw [h'] at p
  · exact rd_void_no t c2 p
  · have x := ovRv_16 a' b' c' f' s' (by omega) (by omega) 0
    rw [txtV_ok hc'] at x
    exact rd_void_ok a' b' c' f' s' t _ c2 p x (by rw [hT, beq_self_eq_true])
theorem law7_l' (l : List UInt8) (t : ByteArray) (_ : l.length ≠ 0) : Pure Tryz.prog 9 tabs 7 [L (bys l) l.length 1 0, .string t] (.bool true) := law7_l l t
theorem law7_n' (t : ByteArray) : Pure Tryz.prog 9 tabs 7 [.slice none 0 0, .string t] (.bool true) := law7_n t
theorem law7_v' (t : ByteArray) : Pure Tryz.prog 9 tabs 7 [.slice (some void) 0 0, .string t] (.bool true) := law7_v t

end Go.Proofs.YtcjjlajpbakaoaaGreatDoor
