/-
  SUPERBLOCK (chapter 36): the law of encodings: what is encoded is decoded; what is torn.
-/
import Derived.Test.YtcjjlajpbakaoaaGreatDoorD36au
namespace Go.Proofs.YtcjjlajpbakaoaaGreatDoor
open Go.Va

/-- What stands between the stamps. -/
def midL (a b c d s : Nat) : List UInt8 := sealL (dataL a b c d s) ++ List.replicate 83 0
theorem be8_len (n : Nat) : (be8 n).length = 8 := rfl
theorem midL_len (a b c d s : Nat) : (midL a b c d s).length = 112 := by simp [midL, sealL, dataL, mark, be4, be1, be8]
theorem sealD_len (a b c d s : Nat) : (sealL (dataL a b c d s)).length = 29 := by simp [sealL, dataL, mark, be4, be1, be8]
theorem dataL_len (a b c d s : Nat) : (dataL a b c d s).length = 25 := by simp [dataL, mark, be4, be1, be8]
theorem encL_eq (e a b c d s : Nat) : encL e a b c d s = be8 e ++ (midL a b c d s ++ be8 e) := by
  unfold encL stampL midL
  simp only [List.append_assoc]
theorem enc_take8 (e a b c d s : Nat) : (encL e a b c d s).take 8 = be8 e := by
  rw [encL_eq, List.take_append_of_le_length (by rw [be8_len]; omega), List.take_of_length_le (by rw [be8_len]; omega)]
theorem enc_drop8 (e a b c d s : Nat) : (encL e a b c d s).drop 8 = midL a b c d s ++ be8 e := by
  rw [encL_eq, List.drop_append_of_le_length (by rw [be8_len]; omega), List.drop_of_length_le (by rw [be8_len]; omega), List.nil_append]
theorem enc_drop120 (e a b c d s : Nat) : (encL e a b c d s).drop 120 = be8 e := by
  rw [show 120 = 8 + 112 from rfl, ← List.drop_drop, enc_drop8, List.drop_append_of_le_length (by rw [midL_len]; omega), List.drop_of_length_le (by rw [midL_len]; omega), List.nil_append]
theorem enc_dat (e a b c d s : Nat) : dat (encL e a b c d s) = midL a b c d s := by
  unfold dat
  rw [enc_drop8, List.take_append_of_le_length (by rw [midL_len]; omega), List.take_of_length_le (by rw [midL_len]; omega)]
theorem mid29 (a b c d s : Nat) : (midL a b c d s).take 29 = sealL (dataL a b c d s) := by
  unfold midL
  rw [List.take_append_of_le_length (by rw [sealD_len]; omega), List.take_of_length_le (by rw [sealD_len]; omega)]
theorem mid25 (a b c d s : Nat) : (midL a b c d s).take 25 = dataL a b c d s := by
  have h : (midL a b c d s).take 25 = ((midL a b c d s).take 29).take 25 := by rw [List.take_take]; rfl
  rw [h, mid29]
  unfold sealL
  rw [List.take_append_of_le_length (by rw [dataL_len]; omega), List.take_of_length_le (by rw [dataL_len]; omega)]
theorem mid_fld (a b c d s k w : Nat) (h : k + w ≤ 25) : ((midL a b c d s).drop k).take w = ((dataL a b c d s).drop k).take w := by
  rw [← mid25, List.drop_take, List.take_take, Nat.min_eq_left (by omega)]
theorem data_eq (a b c d s : Nat) : dataL a b c d s = mark ++ (be4 a ++ (be4 b ++ (be4 c ++ (be1 d ++ be8 s)))) := by
  unfold dataL
  simp only [List.append_assoc]
theorem fld_a (e a b c d s : Nat) (h : a < 4294967296) : fld (encL e a b c d s) 4 4 = a := by
  unfold fld
  rw [enc_dat, mid_fld _ _ _ _ _ _ _ (by omega), data_eq]
  show valB (be4 a) = a
  exact valB_be4 a h
theorem fld_b (e a b c d s : Nat) (h : b < 4294967296) : fld (encL e a b c d s) 8 4 = b := by
  unfold fld
  rw [enc_dat, mid_fld _ _ _ _ _ _ _ (by omega), data_eq]
  show valB (be4 b) = b
  exact valB_be4 b h
theorem fld_c (e a b c d s : Nat) (h : c < 4294967296) : fld (encL e a b c d s) 12 4 = c := by
  unfold fld
  rw [enc_dat, mid_fld _ _ _ _ _ _ _ (by omega), data_eq]
  show valB (be4 c) = c
  exact valB_be4 c h
theorem fld_d (e a b c d s : Nat) (h : d < 256) : fld (encL e a b c d s) 16 1 = d := by
  unfold fld
  rw [enc_dat, mid_fld _ _ _ _ _ _ _ (by omega), data_eq]
  show valB (be1 d) = d
  exact valB_be1 d h
theorem fld_s (e a b c d s : Nat) (h : s < 18446744073709551616) : fld (encL e a b c d s) 17 8 = s := by
  unfold fld
  rw [enc_dat, mid_fld _ _ _ _ _ _ _ (by omega), data_eq]
  show valB (be8 s) = s
  exact valB_be8 s h
theorem enc_decE (e a b c d s : Nat) (h : e < 18446744073709551616) : decE (encL e a b c d s) = e := by
  unfold decE
  rw [List.drop_zero, enc_take8, valB_be8 e h]
/-- What was encoded is decoded, whatever follows. -/
theorem dec_app (l more : List UInt8) (h : l.length = 128) : decO (l ++ more) = decO l := by
  have e1 : decE (l ++ more) = decE l := by unfold decE; rw [List.drop_zero, List.drop_zero, List.take_append_of_le_length (by omega)]
  have e2 : dat (l ++ more) = dat l := by
    unfold dat
    rw [List.drop_append_of_le_length (by omega), List.take_append_of_le_length (by rw [List.length_drop]; omega)]
  have e3 : ∀ e, stamped e (l ++ more) = stamped e l := fun e => by
    unfold stamped
    rw [List.drop_zero, List.drop_zero, List.take_append_of_le_length (by omega), List.drop_append_of_le_length (by omega), List.take_append_of_le_length (by rw [List.length_drop]; omega)]
  have e4 : (l ++ more).take 128 = l.take 128 := List.take_append_of_le_length (by omega)
  have e5 : ∀ a w, fld (l ++ more) a w = fld l a w := fun a w => by unfold fld; rw [e2]
  have e6 : Nat.blt (l ++ more).length 128 = Nat.blt l.length 128 := by
    rw [List.length_append, h]
    apply Bool.eq_iff_iff.2
    rw [Nat.blt_eq, Nat.blt_eq]
    omega
  unfold decO
  rw [e1, e2, e3, e4, e6]
  simp only [e5]
theorem dec_enc (e a b c d s : Nat) (h1 : 1 ≤ e) (h2 : e ≤ 1099511627776) (hc : chk a b c d s = true) (hs : s < 18446744073709551616) : decO (encL e a b c d s) = .tuple #[sup e a b c d s, .int .i64 0] := by
  obtain ⟨k1, k2, k3, k4, k5, k6, k7, k8, _⟩ := chk_spec hc
  have hv : vld e a b c d s = true := by unfold vld; rw [decide_eq_true (show (e : Int) ≥ 1 by omega), decide_eq_true (show (e : Int) ≤ 1099511627776 by omega), hc]; rfl
  unfold decO
  rw [encL_len, enc_decE _ _ _ _ _ _ (by omega), enc_dat, mid25, mid29, fld_a _ _ _ _ _ _ (by omega), fld_b _ _ _ _ _ _ (by omega), fld_c _ _ _ _ _ _ (by omega), fld_d _ _ _ _ _ _ (by omega), fld_s _ _ _ _ _ _ hs, hv,
    List.take_of_length_le (by rw [encL_len]; omega), beq_self_eq_true, beq_self_eq_true]
  have hst : stamped e (encL e a b c d s) = true := by
    unfold stamped
    rw [List.drop_zero, enc_take8, enc_drop120, List.take_of_length_le (by rw [be8_len]; omega), valB_be8 e (by omega), beq_self_eq_true]
    rfl
  rw [hst, show Nat.beq e 0 = false from by cases e with | zero => omega | succ n => rfl, show Nat.blt 1099511627776 e = false from by
    cases h : Nat.blt 1099511627776 e with
    | false => rfl
    | true => have := blt_iff.1 h; omega]
  rfl
/-- What is decoded is a valid superblock, and its encoding is what was decoded. -/
theorem dec_spec (l : List UInt8) : (∃ e a b c d s : Nat, decO l = .tuple #[sup e a b c d s, .int .i64 0] ∧ 128 ≤ l.length ∧ 1 ≤ e ∧ e ≤ 1099511627776 ∧ chk a b c d s = true ∧ s < 18446744073709551616 ∧ encL e a b c d s = l.take 128) ∨
    decO l = err 13 ∨ decO l = err 8 ∨ decO l = err 12 := by
  unfold decO
  cases h1 : Nat.blt l.length 128 with
  | true => exact .inr (.inl rfl)
  | false =>
    cases h2 : (Nat.beq (decE l) 0 || Nat.blt 1099511627776 (decE l)) with
    | true => exact .inr (.inr (.inl rfl))
    | false =>
      cases stamped (decE l) l with
      | false => exact .inr (.inl rfl)
      | true =>
        cases (sealL ((dat l).take 25) == (dat l).take 29) with
        | false => exact .inr (.inr (.inr rfl))
        | true =>
          cases h : (vld (decE l) (fld l 4 4) (fld l 8 4) (fld l 12 4) (fld l 16 1) (fld l 17 8) && (encL (decE l) (fld l 4 4) (fld l 8 4) (fld l 12 4) (fld l 16 1) (fld l 17 8) == l.take 128)) with
          | false => exact .inr (.inr (.inl rfl))
          | true =>
            rw [Bool.and_eq_true] at h
            obtain ⟨hv, he⟩ := h
            unfold vld at hv
            simp only [Bool.and_eq_true, decide_eq_true_eq] at hv
            refine .inl ⟨_, _, _, _, _, _, rfl, ?_, by omega, by omega, hv.2, fld_lt l 17 8, eq_of_beq he⟩
            apply Nat.le_of_not_lt; intro h; rw [blt_iff.2 h] at h1; cases h1

/-! ## Torn superblocks -/

def torn' (l m : List UInt8) (k : Nat) : List UInt8 := m.take k ++ l.drop k
theorem be8_inj {m n : Nat} (hm : m < 18446744073709551616) (hn : n < 18446744073709551616) (h : be8 m = be8 n) : m = n := by
  rw [← valB_be8 m hm, ← valB_be8 n hn, h]
theorem torn_law (e a b c d s e' a' b' c' d' s' k : Nat) (he : e < 18446744073709551616) (he' : e' < 18446744073709551616) (hne : e ≠ e') (hk : k ≤ 128)
    (h1 : torn' (encL e a b c d s) (encL e' a' b' c' d' s') k ≠ encL e a b c d s) (h2 : torn' (encL e a b c d s) (encL e' a' b' c' d' s') k ≠ encL e' a' b' c' d' s') :
    ∃ r : Int, r ≠ 0 ∧ decO (torn' (encL e a b c d s) (encL e' a' b' c' d' s') k) = err r := by
  generalize hl : encL e a b c d s = l at h1 h2 ⊢
  generalize hm : encL e' a' b' c' d' s' = m at h1 h2 ⊢
  have ll : l.length = 128 := by rw [← hl, encL_len]
  have ml : m.length = 128 := by rw [← hm, encL_len]
  have tl : (torn' l m k).length = 128 := by unfold torn'; simp; omega
  rcases dec_spec (torn' l m k) with ⟨e2, a2, b2, c2, d2, s2, _, _, _, _, _, _, hE⟩ | h | h | h
  · exfalso
    rw [List.take_of_length_le (by omega)] at hE
    have hl8 : l.take 8 = be8 e := by rw [← hl, enc_take8]
    have hl120 : l.drop 120 = be8 e := by rw [← hl, enc_drop120]
    have hm8 : m.take 8 = be8 e' := by rw [← hm, enc_take8]
    have hm120 : m.drop 120 = be8 e' := by rw [← hm, enc_drop120]
    have t8 : (torn' l m k).take 8 = be8 e2 := by rw [← hE, enc_take8]
    have t120 : (torn' l m k).drop 120 = be8 e2 := by rw [← hE, enc_drop120]
    have mk : (m.take k).length = k := by rw [List.length_take]; omega
    by_cases k8 : k ≤ 8
    · have q : (torn' l m k).drop 8 = l.drop 8 := by
        unfold torn'
        rw [List.drop_append, mk, List.drop_drop, show k + (8 - k) = 8 by omega, List.drop_of_length_le (by omega), List.nil_append]
      have q120 : (torn' l m k).drop 120 = l.drop 120 := by
        rw [show 120 = 8 + 112 from rfl, ← List.drop_drop, q, List.drop_drop]
      apply h1
      rw [← List.take_append_drop 8 (torn' l m k), q, t8, ← t120, q120, hl120, ← hl8, List.take_append_drop]
    · have t8' : (torn' l m k).take 8 = m.take 8 := by
        unfold torn'
        rw [List.take_append_of_le_length (by omega), List.take_take, Nat.min_eq_left (by omega)]
      by_cases k120 : k ≤ 120
      · have q120 : (torn' l m k).drop 120 = l.drop 120 := by
          unfold torn'
          rw [List.drop_append, mk, List.drop_drop, show k + (120 - k) = 120 by omega, List.drop_of_length_le (by omega), List.nil_append]
        apply hne
        apply be8_inj he he'
        rw [← hl120, ← q120, t120, ← t8, t8', hm8]
      · have q : (torn' l m k).take 120 = m.take 120 := by
          unfold torn'
          rw [List.take_append_of_le_length (by omega), List.take_take, Nat.min_eq_left (by omega)]
        apply h2
        rw [← List.take_append_drop 120 (torn' l m k), q, t120, ← t8, t8', hm8, ← hm120, List.take_append_drop]
  · exact ⟨13, by decide, h⟩
  · exact ⟨8, by decide, h⟩
  · exact ⟨12, by decide, h⟩

end Go.Proofs.YtcjjlajpbakaoaaGreatDoor
