/-
  SUPERBLOCK (chapter 36): configurations are found again from their strings.
-/
import Derived.Test.YtcjjlajpbakaoaaGreatDoorD36bm
namespace Go.Proofs.YtcjjlajpbakaoaaGreatDoor
open Go.Va

/-! ## Digits -/

theorem dig_step (u : Nat) : Lib.decDigits u = if u < 10 then [UInt8.ofNat (48 + u)] else Lib.decDigits (u / 10) ++ [UInt8.ofNat (48 + u % 10)] := by
  by_cases h : u < 10
  · rw [if_pos h, Lib.decDigits, dif_pos h]
  · rw [if_neg h, Lib.decDigits, dif_neg h]
theorem dig_byte (k : Nat) (h : k < 10) : (UInt8.ofNat (48 + k)).toNat = 48 + k := by
  rw [UInt8.toNat_ofNat']
  exact Nat.mod_eq_of_lt (by omega)
theorem dig_all (u : Nat) : ∀ b ∈ Lib.decDigits u, 48 ≤ b.toNat ∧ b.toNat ≤ 57 := by
  induction u using Nat.strongRecOn with
  | ind u ih =>
    intro b hb
    rw [dig_step] at hb
    by_cases h : u < 10
    · rw [if_pos h] at hb
      rw [List.mem_singleton.1 hb, dig_byte u h]; omega
    · rw [if_neg h] at hb
      rcases List.mem_append.1 hb with hb | hb
      · exact ih (u / 10) (by omega) b hb
      · rw [List.mem_singleton.1 hb, dig_byte _ (by omega)]; omega
theorem dig_ne (u : Nat) : Lib.decDigits u ≠ [] := by
  rw [dig_step]
  split
  · simp
  · simp
theorem pu_app : ∀ (l : List UInt8) (acc v : Nat) (c : UInt8), Lib.parseUint10 acc l = .ok v → Lib.parseUint10 acc (l ++ [c]) = Lib.parseUint10 v [c]
  | [], acc, v, c, h => by
    unfold Lib.parseUint10 at h
    injection h with h
    rw [h]; rfl
  | b :: l, acc, v, c, h => by
    rw [List.cons_append]
    unfold Lib.parseUint10 at h ⊢
    split at h
    · rename_i h1
      rw [if_pos h1]
      split at h
      · cases h
      · rename_i h2
        rw [if_neg h2]
        split at h
        · cases h
        · rename_i h3
          rw [if_neg h3]
          have := pu_app l _ v c h
          rw [this]
          conv => lhs; unfold Lib.parseUint10
    · cases h
theorem pu_dig (u : Nat) (h : u < 18446744073709551616) : Lib.parseUint10 0 (Lib.decDigits u) = .ok u := by
  induction u using Nat.strongRecOn with
  | ind u ih =>
    rw [dig_step]
    by_cases h1 : u < 10
    · rw [if_pos h1]
      unfold Lib.parseUint10
      rw [dig_byte u h1, if_pos (by omega), if_neg (by omega), if_neg (by omega)]
      unfold Lib.parseUint10
      congr 1; omega
    · rw [if_neg h1, pu_app _ _ _ _ (ih (u / 10) (by omega) (by omega))]
      unfold Lib.parseUint10
      rw [dig_byte _ (by omega), if_pos (by omega), if_neg (by omega), if_neg (by omega)]
      unfold Lib.parseUint10
      congr 1; omega
theorem mag_dig (u : Nat) (h : u < 18446744073709551616) : Lib.parseMag (Lib.decDigits u) = .ok u := by
  unfold Lib.parseMag
  rw [if_neg (dig_ne u), pu_dig u h]
theorem puB_dig (u : Nat) (h : u < 18446744073709551616) : Lib.parseUintB 64 (Lib.decDigits u) = .ok u := by
  rw [Lib.parseUintB_64, mag_dig u h]
theorem atoi_dig (u : Nat) (h : u < 9223372036854775808) : Lib.atoiAll (Lib.decDigits u) = .ok (u : Int) := by
  have hm := mag_dig u (by omega)
  have ha := dig_all u
  unfold Lib.atoiAll
  cases hd : Lib.decDigits u with
  | nil => exact absurd hd (dig_ne u)
  | cons c r =>
    rw [hd] at hm ha
    have hc := ha c (by simp)
    dsimp only
    rw [if_neg (show ¬ (c.toNat = 43 ∨ c.toNat = 45) by omega), hm]
    dsimp only
    rw [if_neg (by omega), if_neg (by omega), if_neg (by omega)]

/-! ## Words and spaces -/

theorem idx_word : ∀ (x r : List UInt8), (32 : UInt8) ∉ x → Lib.index (x ++ 32 :: r) [32] = (x.length : Int)
  | [], r, _ => by
    show Lib.index (32 :: r) [32] = 0
    unfold Lib.index
    rw [if_pos (by simp)]
  | b :: x, r, h => by
    have hb : b ≠ 32 := fun e => h (by rw [e]; simp)
    have hx : (32 : UInt8) ∉ x := fun e => h (by simp [e])
    rw [List.cons_append]
    unfold Lib.index
    have hp : ([32] : List UInt8).isPrefixOf (b :: (x ++ 32 :: r)) = false := by
      simp only [List.isPrefixOf, Bool.and_true]
      exact beq_eq_false_iff_ne.2 (fun e => hb e.symm)
    rw [hp, if_neg (by decide), idx_word x r hx]
    rw [if_neg (by rw [beq_iff_eq]; omega), List.length_cons]
    omega
theorem join_two (x y : List UInt8) (r : List (List UInt8)) : Lib.join (x :: y :: r) [32] = x ++ 32 :: Lib.join (y :: r) [32] := by
  rw [Lib.join_cons, Lib.join_cons]
  unfold Lib.joinTail
  simp
theorem count_join : ∀ (xs : List (List UInt8)), (∀ x ∈ xs, (32 : UInt8) ∉ x) → Lib.count (Lib.join xs [32]) [32] = xs.length - 1
  | [], _ => by rw [Lib.count_one, Lib.join_nil]; rfl
  | [x], h => by
    rw [Lib.count_one, Lib.join_one]
    exact List.count_eq_zero.2 (h x (by simp))
  | x :: y :: r, h => by
    have ih := count_join (y :: r) (fun z hz => h z (by simp at hz ⊢; right; exact hz))
    rw [Lib.count_one] at ih ⊢
    rw [join_two, List.count_append, List.count_cons_self, ih, List.count_eq_zero.2 (h x (by simp))]
    simp
theorem split_join : ∀ (xs : List (List UInt8)), xs ≠ [] → (∀ x ∈ xs, (32 : UInt8) ∉ x) → Lib.splitK [32] 0 (xs.length - 1) (Lib.join xs [32]) = xs
  | [], h, _ => absurd rfl h
  | [x], _, _ => by
    rw [Lib.join_one]; rfl
  | x :: y :: r, _, h => by
    have ih := split_join (y :: r) (by simp) (fun z hz => h z (by simp at hz ⊢; right; exact hz))
    have hi := idx_word x (Lib.join (y :: r) [32]) (h x (by simp))
    rw [← join_two] at hi
    show Lib.splitK [32] 0 (r.length + 1) _ = _
    unfold Lib.splitK
    rw [hi, if_neg (by rw [beq_iff_eq]; omega), Int.toNat_natCast, join_two, Nat.add_zero, List.take_left]
    congr 1
    rw [show x.length + [(32 : UInt8)].length = x.length + 1 from rfl, ← List.drop_drop, List.drop_left]
    exact ih

/-- The parts are found again. -/
theorem ba_ext {s t : ByteArray} (h : s.data.toList = t.data.toList) : s = t := by
  apply ByteArray.ext
  exact Array.ext' h
theorem map_data_inj : ∀ {l m : List ByteArray}, l.map (·.data.toList) = m.map (·.data.toList) → l = m
  | [], [], _ => rfl
  | a :: l, b :: m, h => by
    rw [List.map_cons, List.map_cons] at h
    injection h with h1 h2
    rw [ba_ext h1, map_data_inj h2]
  | [], _ :: _, h => by cases h
  | _ :: _, [], h => by cases h
theorem splS_join (l : List ByteArray) (h0 : l ≠ []) (h : ∀ x ∈ l, (32 : UInt8) ∉ x.data.toList) : splS (joinS l sp) sp = l := by
  have hd : (joinS l sp).data.toList = Lib.join (l.map (·.data.toList)) [32] := by unfold joinS; simp [sp, ba]
  have hm : ∀ x ∈ l.map (·.data.toList), (32 : UInt8) ∉ x := fun x hx => by
    obtain ⟨y, hy, rfl⟩ := List.mem_map.1 hx
    exact h y hy
  apply map_data_inj
  unfold splS
  rw [Lib.splitB_data]
  unfold Lib.countB
  rw [hd, show sp.data.toList = [32] from rfl, count_join _ hm]
  exact split_join _ (fun e => h0 (List.map_eq_nil_iff.1 e)) hm

theorem no_sp_dec (u : Nat) : (32 : UInt8) ∉ (decS u).data.toList := by
  rw [decS_data]
  intro h
  have := dig_all u 32 h
  have e : (32 : UInt8).toNat = 32 := rfl
  omega
theorem no_sp_word (d : Nat) : (32 : UInt8) ∉ (wordB d).data.toList := by
  match d with
  | 0 => decide
  | 1 => decide
  | _ + 2 => show (32 : UInt8) ∉ wSeed.data.toList; decide
theorem splS_text (a b c d s : Nat) : splS (textS a b c d s) sp = flds a b c d s := by
  unfold textS
  refine splS_join _ (by unfold flds; simp) fun x hx => ?_
  unfold flds at hx
  rcases List.mem_append.1 hx with hx | hx
  · simp only [List.mem_cons, List.not_mem_nil, or_false] at hx
    rcases hx with rfl | rfl | rfl | rfl
    · exact no_sp_dec _
    · exact no_sp_dec _
    · exact no_sp_dec _
    · exact no_sp_word _
  · cases h : Nat.beq d 2 with
    | false => rw [h] at hx; cases hx
    | true =>
      rw [h, cond_true, List.mem_singleton] at hx
      rw [hx]; exact no_sp_dec _
theorem tabN_word (d : Nat) (h : d < 3) : tabN (wordB d) = d := by
  unfold tabN
  rw [ByteArray.toList_eq, ByteArray.toList_eq, ByteArray.toList_eq]
  match d with
  | 0 => decide
  | 1 => decide
  | 2 => decide
  | n + 3 => omega
theorem fin_text (a b c d s : Nat) (h : chk a b c d s = true) : finV (textS a b c d s) a b c d s = .tuple #[cfg a b c d s, .int .i64 0] := by
  unfold finV
  simp only [Int.toNat_natCast]
  rw [h, beq_self_eq_true]
  rfl
/-- What Text answers is decoded. -/
theorem par_text (a b c d s : Nat) (h : chk a b c d s = true) (hs : s < 18446744073709551616) : parV (textS a b c d s) = .tuple #[cfg a b c d s, .int .i64 0] := by
  obtain ⟨k1, k2, k3, k4, k5, k6, k7, k8, k9⟩ := chk_spec h
  have f := fin_text a b c d s h
  unfold parV
  rw [splS_text]
  unfold flds
  have hd : d < 3 := by omega
  cases hb : Nat.beq d 2 with
  | true =>
    have hd2 := Nat.eq_of_beq_eq_true hb
    subst hd2
    rw [cond_true]
    show parL _ [decS a, decS b, decS c, wordB 2, decS s] = _
    unfold parL
    dsimp only
    rw [decS_data, decS_data, decS_data, decS_data, atoi_dig a (by omega), atoi_dig b (by omega), atoi_dig c (by omega), puB_dig s hs, tabN_word 2 (by omega)]
    exact f
  | false =>
    have hs0 : s = 0 := by
      have hne : (d : Int) ≠ 2 := by
        intro e
        have : d = 2 := by omega
        rw [this] at hb; cases hb
      have := k9 hne
      omega
    subst hs0
    rw [cond_false]
    show parL _ [decS a, decS b, decS c, wordB d] = _
    unfold parL
    dsimp only
    rw [decS_data, decS_data, decS_data, atoi_dig a (by omega), atoi_dig b (by omega), atoi_dig c (by omega), tabN_word d hd]
    dsimp only
    rw [hb, cond_false]
    exact f
/-- Different configurations have different strings. -/
theorem text_inj {a b c d s a' b' c' d' s' : Nat} (h : chk a b c d s = true) (hs : s < 18446744073709551616) (h' : chk a' b' c' d' s' = true) (hs' : s' < 18446744073709551616) (e : textS a b c d s = textS a' b' c' d' s') : a = a' ∧ b = b' ∧ c = c' ∧ d = d' ∧ s = s' := by
  have e1 := par_text a b c d s h hs
  rw [e, par_text a' b' c' d' s' h' hs'] at e1
  injection e1 with e1
  injection e1 with e1
  injection e1 with e1 _
  unfold cfg at e1
  injection e1 with e1
  injection e1 with e1
  simp only [List.cons.injEq, Value.int.injEq, true_and, and_true] at e1
  omega

end Go.Proofs.YtcjjlajpbakaoaaGreatDoor
