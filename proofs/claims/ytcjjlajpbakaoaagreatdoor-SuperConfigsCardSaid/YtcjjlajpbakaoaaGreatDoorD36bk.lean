/-
  SUPERBLOCK (chapter 36): super.Text: what it answers.
-/
import Derived.Test.YtcjjlajpbakaoaaGreatDoorD36bj
import Derived.Test.YtcjjlajpbakaoaaGreatDoorD36v
namespace Go.Proofs.YtcjjlajpbakaoaaGreatDoor
open Go.Va

def wordB (d : Nat) : ByteArray := match d with | 0 => wStd | 1 => wZero | _ => wSeed
/-- The parts of a configuration's string. -/
def flds (a b c d s : Nat) : List ByteArray := [decS a, decS b, decS c, wordB d] ++ (bif Nat.beq d 2 then [decS s] else [])
def textS (a b c d s : Nat) : ByteArray := joinS (flds a b c d s) sp
theorem dec_len (u : Nat) (h : u < 18446744073709551616) : (Lib.decDigits u).length ≤ 20 := by
  rw [Lib.decDigits_length]
  by_cases h0 : 1 ≤ u
  · have := Lib.numDigits_eq u h0 h; split at this <;> omega
  · obtain rfl : u = 0 := by omega
    unfold Lib.nDigits
    simp
theorem decS_data (u : Nat) : (decS u).data.toList = Lib.decDigits u := by unfold decS; simp
theorem word_len (d : Nat) : (wordB d).data.toList.length ≤ 8 := by
  match d with
  | 0 => decide
  | 1 => decide
  | _ + 2 => show wSeed.data.toList.length ≤ 8; decide
theorem lenJ_flds (a b c d s : Nat) (ha : a < 18446744073709551616) (hb : b < 18446744073709551616) (hc : c < 18446744073709551616) (hs : s < 18446744073709551616) : lenJ (flds a b c d s) sp < 200 := by
  have e1 := dec_len a ha
  have e2 := dec_len b hb
  have e3 := dec_len c hc
  have e4 := dec_len s hs
  have e5 := word_len d
  have e6 : sp.data.toList.length = 1 := rfl
  unfold lenJ flds
  cases Nat.beq d 2 with
  | true =>
    simp only [cond_true, List.map_append, List.map_cons, List.map_nil, List.cons_append, List.nil_append, decS_data]
    rw [Lib.join_cons]
    unfold Lib.joinTail
    simp only [List.map_cons, List.map_nil, List.flatten_cons, List.flatten_nil, List.length_append, List.length_nil]
    omega
  | false =>
    simp only [cond_false, List.map_append, List.map_cons, List.map_nil, List.cons_append, List.nil_append, List.append_nil, decS_data]
    rw [Lib.join_cons]
    unfold Lib.joinTail
    simp only [List.map_cons, List.map_nil, List.flatten_cons, List.flatten_nil, List.length_append, List.length_nil]
    omega
theorem ovX_44 (n : Nat) (h : n < 1000000) (lim : Nat) (σ : AS) : (envL tX).ov 44 [.int .i64 (n : Int)] lim σ = some (.string (decS n), σ) := by
  refine envK' rfl rfl (show _ = [Value.int .i64 (n : Int)] from rfl) rfl ?_
  show (bif inI (n : Int) then some (itoaV (n : Int)) else none) = _
  have : inI (n : Int) = true := by simp only [inI, Bool.and_eq_true, decide_eq_true_eq]; omega
  rw [this, itoaV_nat]
  rfl
theorem ovX_45 (n : Nat) (h : n < 18446744073709551616) (lim : Nat) (σ : AS) : (envL tX).ov 45 [.int .u64 (n : Int), .int .i64 10] lim σ = some (.string (decS n), σ) := by
  refine envK' rfl rfl (show _ = [Value.int .u64 (n : Int), .int .i64 10] from rfl) rfl ?_
  unfold tX
  rw [pfT_ne rfl, pfT_eq]
  unfold k45
  dsimp only
  rw [decide_eq_true (show 0 ≤ (n : Int) by omega), decide_eq_true (show (n : Int) < 18446744073709551616 by omega), Int.toNat_natCast]
  rfl
theorem ovX_46 (l : List ByteArray) (n g : Nat) (hn : l.length = n) (h0 : 0 < n) (h1 : n < 1000) (h2 : lenJ l sp < 1000000) (lim : Nat) (σ : AS) : (envL tX).ov 46 [L (strs l) n 1 g, .string sp] lim σ = some (.string (joinS l sp), σ) := by
  subst hn
  have hs : ∃ h, h ≤ 1 ∧ strip (L (strs l) l.length 1 g) = L (strs l) l.length 1 h := by
    by_cases hg : g ≤ 1
    · refine ⟨g, hg, ?_⟩
      show (bif Nat.ble g 1 then _ else _) = _
      rw [Nat.ble_eq_true_of_le hg]; rfl
    · refine ⟨0, by omega, ?_⟩
      show (bif Nat.ble g 1 then _ else _) = _
      rw [show Nat.ble g 1 = false by rw [← Bool.not_eq_true, Nat.ble_eq]; exact hg]; rfl
  obtain ⟨h, hh, hs⟩ := hs
  refine envK' rfl rfl (show [strip (L (strs l) l.length 1 g), strip (.string sp)] = [L (strs l) l.length 1 h, .string sp] by rw [hs]; rfl) ?_ ?_
  · show (flatB 100 (L (strs l) l.length 1 h) && (flatB 100 (.string sp) && true)) = true
    have : flatB 100 (L (strs l) l.length 1 h) = Nat.ble h 1 := rfl
    rw [this, Nat.ble_eq_true_of_le hh]; rfl
  · show k46 [L (strs l) l.length 1 h, .string sp] = _
    unfold k46
    dsimp only
    rw [asS_L hh]
    dsimp only
    rw [blt_iff.2 h0, blt_iff.2 h1, blt_iff.2 h2]
    rfl
def txtV (a b c d s : Int) : Value := bif chk a b c d s then .tuple #[.string (textS a.toNat b.toNat c.toNat d.toNat s.toNat), .int .i64 0] else .tuple #[.string ⟨#[]⟩, .int .i64 2]
theorem p16 (a b c d s : Int) (s0 : 0 ≤ s) (s1 : s < 18446744073709551616) : Pure Tryz.prog 9 tabs 16 [cfg a b c d s] (txtV a b c d s) := by
  unfold txtV
  cases h : chk a b c d s with
  | false => exact txtN a b c d s (by rw [h]; rfl)
  | true =>
    have h0 : ((bif chk a b c d s then (0 : Int) else 2) != 0) = false := by rw [h]; rfl
    rw [cond_true]
    obtain ⟨k1, k2, k3, k4, k5, k6, k7, k8, _⟩ := chk_spec h
    obtain ⟨a', rfl⟩ := Int.eq_ofNat_of_zero_le (show 0 ≤ a by omega)
    obtain ⟨b', rfl⟩ := Int.eq_ofNat_of_zero_le (show 0 ≤ b by omega)
    obtain ⟨c', rfl⟩ := Int.eq_ofNat_of_zero_le (show 0 ≤ c by omega)
    obtain ⟨d', rfl⟩ := Int.eq_ofNat_of_zero_le (show 0 ≤ d by omega)
    obtain ⟨s', rfl⟩ := Int.eq_ofNat_of_zero_le s0
    simp only [Int.toNat_natCast]
    have hJ := lenJ_flds a' b' c' d' s' (by omega) (by omega) (by omega) (by omega)
    match d', h0, hJ, k8 with
    | 0, h0, hJ, _ => exact txt0 a' b' c' s' (decS a') (decS b') (decS c') _ h0 (ovX_44 a' (by omega) 0) (ovX_44 b' (by omega) 0) (ovX_44 c' (by omega) 0) (ovX_46 [decS a', decS b', decS c', wStd] 4 1 rfl (by omega) (by omega) (Nat.lt_trans hJ (by omega)) 0)
    | 1, h0, hJ, _ => exact txt1 a' b' c' s' (decS a') (decS b') (decS c') _ h0 (ovX_44 a' (by omega) 0) (ovX_44 b' (by omega) 0) (ovX_44 c' (by omega) 0) (ovX_46 [decS a', decS b', decS c', wZero] 4 1 rfl (by omega) (by omega) (Nat.lt_trans hJ (by omega)) 0)
    | 2, h0, hJ, _ => exact txt2 a' b' c' s' (decS a') (decS b') (decS c') (decS s') _ h0 (ovX_44 a' (by omega) 0) (ovX_44 b' (by omega) 0) (ovX_44 c' (by omega) 0) (ovX_45 s' (by omega) 0) (ovX_46 [decS a', decS b', decS c', wSeed, decS s'] 5 12 rfl (by omega) (by omega) (Nat.lt_trans hJ (by omega)) 0)
    | n + 3, _, _, hd => exact absurd hd (by omega)
def k16 : List Value → Option Value
  | [.agg ⟨[.int .i64 a, .int .i64 b, .int .i64 c, .int .i64 d, .int .u64 s]⟩] => bif decide (0 ≤ s) && decide (s < 18446744073709551616) then some (txtV a b c d s) else none
  | _ => none
theorem k16_ok : KOk Tryz.prog 9 tabs 16 k16 := by
  intro args v h
  unfold k16 at h
  split at h
  · rename_i a b c d s
    cases hb : (decide (0 ≤ s) && decide (s < 18446744073709551616)) with
    | false => rw [hb] at h; cases h
    | true =>
      rw [hb, cond_true] at h
      cases h
      simp only [Bool.and_eq_true, decide_eq_true_eq] at hb
      exact p16 a b c d s hb.1 hb.2
  · cases h

end Go.Proofs.YtcjjlajpbakaoaaGreatDoor
