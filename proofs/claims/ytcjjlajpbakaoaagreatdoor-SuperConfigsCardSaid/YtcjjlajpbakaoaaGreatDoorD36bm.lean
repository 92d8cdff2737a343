/-
  SUPERBLOCK (chapter 36): what super.Parse answers.
-/
import Derived.Test.YtcjjlajpbakaoaaGreatDoorD36bl
namespace Go.Proofs.YtcjjlajpbakaoaaGreatDoor
open Go.Va

def e8 : Value := .tuple #[cfg 0 0 0 0 0, .int .i64 8]
/-- A configuration is kept if it is valid and its string is the one that was decoded. -/
def finV (s : ByteArray) (a b c d x : Int) : Value := bif chk a b c d x && ((textS a.toNat b.toNat c.toNat d.toNat x.toNat).toList == s.toList) then .tuple #[cfg a b c d x, .int .i64 0] else e8
def tabN (w : ByteArray) : Nat := bif wZero.toList == w.toList then 1 else bif wSeed.toList == w.toList then 2 else 0
/-- What is decoded from a string. -/
def parL (s : ByteArray) : List ByteArray → Value
  | x0 :: x1 :: x2 :: x3 :: r => (match Lib.atoiAll x0.data.toList with
    | .ok v0 => (match Lib.atoiAll x1.data.toList with
      | .ok v1 => (match Lib.atoiAll x2.data.toList with
        | .ok v2 => bif Nat.beq (tabN x3) 2 then (match r with
            | x4 :: _ => (match Lib.parseUintB 64 x4.data.toList with
              | .ok u => finV s v0 v1 v2 2 (u : Nat)
              | _ => e8)
            | [] => finV s v0 v1 v2 2 0) else finV s v0 v1 v2 (tabN x3 : Nat) 0
        | _ => e8)
      | _ => e8)
    | _ => e8)
  | _ => e8
def parV (s : ByteArray) : Value := parL s (splS s sp)

theorem ovP_48 (s : ByteArray) (hs : s.size < 100000) (lim : Nat) (σ : AS) : (envT tP).ov 48 [.string s, .string sp] lim σ = some (L (strs (splS s sp)) (splS s sp).length 1 0, σ) := by
  refine envK rfl rfl (show _ = [Value.string s, .string sp] from rfl) rfl ?_
  unfold tP
  rw [pfT_eq]
  unfold k48
  dsimp only
  rw [blt_iff.2 hs, show Nat.blt 0 sp.size = true from rfl]
  rfl
theorem ovP_49 (s : ByteArray) (hs : s.size < 100000) (lim : Nat) (σ : AS) : (envT tP).ov 49 [.string s] lim σ = some (atoiV s.data.toList, σ) := by
  refine envK rfl rfl (show _ = [Value.string s] from rfl) rfl ?_
  unfold tP
  rw [pfT_ne rfl, pfT_eq]
  unfold k49
  dsimp only
  rw [blt_iff.2 hs]
  rfl
theorem ovP_50 (s : ByteArray) (hs : s.size < 100000) (lim : Nat) (σ : AS) : (envT tP).ov 50 [.string s, .int .i64 10, .int .i64 64] lim σ = some (puV s.data.toList, σ) := by
  refine envK rfl rfl (show _ = [Value.string s, .int .i64 10, .int .i64 64] from rfl) rfl ?_
  unfold tP
  rw [pfT_ne rfl, pfT_ne rfl, pfT_eq]
  unfold k50
  dsimp only
  rw [blt_iff.2 hs]
  rfl
theorem ovP_16 (a b c d s : Int) (s0 : 0 ≤ s) (s1 : s < 18446744073709551616) (lim : Nat) (σ : AS) : (envT tP).ov 16 [cfg a b c d s] lim σ = some (txtV a b c d s, σ) := by
  refine envK rfl rfl (show _ = [cfg a b c d s] from rfl) rfl ?_
  unfold tP
  rw [pfT_ne rfl, pfT_ne rfl, pfT_ne rfl, pfT_eq]
  unfold k16 cfg
  dsimp only
  rw [decide_eq_true s0, decide_eq_true s1]
  rfl
theorem splS_small (s : ByteArray) : ∀ x ∈ splS s sp, x.size ≤ s.size := by
  have key : ∀ (n : Nat) (s : ByteArray), ∀ x ∈ Lib.splitB sp 0 n s, x.size ≤ s.size := by
    intro n
    induction n with
    | zero => intro s x hx; rw [Lib.splitB_zero] at hx; rw [List.mem_singleton.1 hx]; omega
    | succ n ih =>
      intro s x hx
      unfold Lib.splitB at hx
      split at hx
      · rw [List.mem_singleton.1 hx]; omega
      · rcases List.mem_cons.1 hx with rfl | hx
        · rw [ByteArray.size_extract]; omega
        · have := ih _ x hx
          rw [ByteArray.size_extract] at this
          omega
  exact key _ s
theorem fin_of {s : ByteArray} {a b c d x : Int} (s0 : 0 ≤ x) (s1 : x < 18446744073709551616) (bad : (∀ σ, (envT tP).ov 16 [cfg a b c d x] 0 σ = some (.tuple #[.string ⟨#[]⟩, .int .i64 2], σ)) → Pure Tryz.prog 9 tabs 18 [.string s] e8)
    (ne : ∀ T : ByteArray, (∀ σ, (envT tP).ov 16 [cfg a b c d x] 0 σ = some (.tuple #[.string T, .int .i64 0], σ)) → (!(T.toList == s.toList)) = true → Pure Tryz.prog 9 tabs 18 [.string s] e8)
    (ok : ∀ T : ByteArray, (∀ σ, (envT tP).ov 16 [cfg a b c d x] 0 σ = some (.tuple #[.string T, .int .i64 0], σ)) → (!(T.toList == s.toList)) = false → Pure Tryz.prog 9 tabs 18 [.string s] (.tuple #[cfg a b c d x, .int .i64 0])) :
    Pure Tryz.prog 9 tabs 18 [.string s] (finV s a b c d x) := by
  have h := ovP_16 a b c d x s0 s1 0
  unfold txtV at h
  unfold finV
  cases hc : chk a b c d x with
  | false => rw [hc] at h; exact bad h
  | true =>
    rw [hc] at h
    rw [Bool.true_and]
    cases ht : ((textS a.toNat b.toNat c.toNat d.toNat x.toNat).toList == s.toList) with
    | false => exact ne _ h (by rw [ht]; rfl)
    | true => exact ok _ h (by rw [ht]; rfl)
theorem word_ne {a b x : ByteArray} (h : (a.toList == x.toList) = true) (hab : (b.toList == a.toList) = false) : (b.toList == x.toList) = false := by
  rw [← eq_of_beq h]; exact hab
theorem wne1 : (wZero.toList == wStd.toList) = false := by rw [ByteArray.toList_eq, ByteArray.toList_eq]; decide
theorem wne2 : (wSeed.toList == wStd.toList) = false := by rw [ByteArray.toList_eq, ByteArray.toList_eq]; decide
theorem wne3 : (wSeed.toList == wZero.toList) = false := by rw [ByteArray.toList_eq, ByteArray.toList_eq]; decide
theorem puB_lt {l : List UInt8} {u : Nat} (h : Lib.parseUintB 64 l = .ok u) : u < 18446744073709551616 := by
  unfold Lib.parseUintB at h
  split at h
  · cases h
  · have := Lib.parseUintM_le _ l 0 u (Nat.zero_le _) h
    have e : (2 : Nat) ^ 64 = 18446744073709551616 := rfl
    omega
set_option maxHeartbeats 1000000 in
theorem p18 (s : ByteArray) (hs : s.size < 100000) : Pure Tryz.prog 9 tabs 18 [.string s] (parV s) := by
  unfold parV
  have q := ovP_48 s hs 0
  have hsm := splS_small s
  generalize splS s sp = ps at q hsm ⊢
  match ps, q, hsm with
  | [], q, _ => exact par_short s _ _ q (decide_eq_true (by show ((0 : Nat) : Int) < 4; omega))
  | [_], q, _ => exact par_short s _ _ q (decide_eq_true (by show ((1 : Nat) : Int) < 4; omega))
  | [_, _], q, _ => exact par_short s _ _ q (decide_eq_true (by show ((2 : Nat) : Int) < 4; omega))
  | [_, _, _], q, _ => exact par_short s _ _ q (decide_eq_true (by show ((3 : Nat) : Int) < 4; omega))
  | x0 :: x1 :: x2 :: x3 :: r, q, hsm =>
    have hlen : (x0 :: x1 :: x2 :: x3 :: r).length = r.length + 4 := rfl
    have hn : decide (((x0 :: x1 :: x2 :: x3 :: r).length : Int) < 4) = false := decide_eq_false (by rw [hlen]; omega)
    have b0 : (0 : Int) ≤ 0 ∧ (0 : Int) < ((x0 :: x1 :: x2 :: x3 :: r).length : Int) := by rw [hlen]; omega
    have b1 : (0 : Int) ≤ 1 ∧ (1 : Int) < ((x0 :: x1 :: x2 :: x3 :: r).length : Int) := by rw [hlen]; omega
    have b2 : (0 : Int) ≤ 2 ∧ (2 : Int) < ((x0 :: x1 :: x2 :: x3 :: r).length : Int) := by rw [hlen]; omega
    have b3 : (0 : Int) ≤ 3 ∧ (3 : Int) < ((x0 :: x1 :: x2 :: x3 :: r).length : Int) := by rw [hlen]; omega
    have z0 := hsm x0 (by simp)
    have z1 := hsm x1 (by simp)
    have z2 := hsm x2 (by simp)
    have a0 := ovP_49 x0 (by omega) 0
    have a1 := ovP_49 x1 (by omega) 0
    have a2 := ovP_49 x2 (by omega) 0
    unfold parL
    dsimp only
    unfold atoiV at a0 a1 a2
    cases h0 : Lib.atoiAll x0.data.toList with
    | «syntax» => rw [h0] at a0; exact par_e0 _ s x0 _ _ q hn b0 rfl a0
    | range => rw [h0] at a0; exact par_e0 _ s x0 _ _ q hn b0 rfl a0
    | ok v0 =>
      rw [h0] at a0
      cases h1 : Lib.atoiAll x1.data.toList with
      | «syntax» => rw [h1] at a1; exact par_e1 v0 _ s x0 x1 _ _ q hn b0 rfl a0 b1 rfl a1
      | range => rw [h1] at a1; exact par_e1 v0 _ s x0 x1 _ _ q hn b0 rfl a0 b1 rfl a1
      | ok v1 =>
        rw [h1] at a1
        cases h2 : Lib.atoiAll x2.data.toList with
        | «syntax» => rw [h2] at a2; exact par_e2 v0 v1 _ s x0 x1 x2 _ _ q hn b0 rfl a0 b1 rfl a1 b2 rfl a2
        | range => rw [h2] at a2; exact par_e2 v0 v1 _ s x0 x1 x2 _ _ q hn b0 rfl a0 b1 rfl a1 b2 rfl a2
        | ok v2 =>
          rw [h2] at a2
          dsimp only
          cases w0 : (wStd.toList == x3.toList) with
          | true =>
            have w1 := word_ne w0 wne1
            have w2 := word_ne w0 wne2
            have ht : tabN x3 = 0 := by unfold tabN; rw [w1, w2]; rfl
            rw [ht]
            exact fin_of (by omega) (by omega) (fun t => par_std_bad v0 v1 v2 s x0 x1 x2 x3 _ _ q hn b0 rfl a0 b1 rfl a1 b2 rfl a2 b3 rfl w0 b3 rfl w1 b3 rfl w2 t)
              (fun T t h => par_std_ne v0 v1 v2 s x0 x1 x2 x3 T _ _ q hn b0 rfl a0 b1 rfl a1 b2 rfl a2 b3 rfl w0 b3 rfl w1 b3 rfl w2 t h)
              (fun T t h => par_std_ok v0 v1 v2 s x0 x1 x2 x3 T _ _ q hn b0 rfl a0 b1 rfl a1 b2 rfl a2 b3 rfl w0 b3 rfl w1 b3 rfl w2 t h)
          | false =>
            cases w1 : (wZero.toList == x3.toList) with
            | true =>
              have w2 := word_ne w1 wne3
              have ht : tabN x3 = 1 := by unfold tabN; rw [w1]; rfl
              rw [ht]
              exact fin_of (by omega) (by omega) (fun t => par_zero_bad v0 v1 v2 s x0 x1 x2 x3 _ _ q hn b0 rfl a0 b1 rfl a1 b2 rfl a2 b3 rfl w0 b3 rfl w1 b3 rfl w2 t)
                (fun T t h => par_zero_ne v0 v1 v2 s x0 x1 x2 x3 T _ _ q hn b0 rfl a0 b1 rfl a1 b2 rfl a2 b3 rfl w0 b3 rfl w1 b3 rfl w2 t h)
                (fun T t h => par_zero_ok v0 v1 v2 s x0 x1 x2 x3 T _ _ q hn b0 rfl a0 b1 rfl a1 b2 rfl a2 b3 rfl w0 b3 rfl w1 b3 rfl w2 t h)
            | false =>
              cases w2 : (wSeed.toList == x3.toList) with
              | false =>
                have ht : tabN x3 = 0 := by unfold tabN; rw [w1, w2]; rfl
                rw [ht]
                exact fin_of (by omega) (by omega) (fun t => par_none_bad v0 v1 v2 s x0 x1 x2 x3 _ _ q hn b0 rfl a0 b1 rfl a1 b2 rfl a2 b3 rfl w0 b3 rfl w1 b3 rfl w2 t)
                  (fun T t h => par_none_ne v0 v1 v2 s x0 x1 x2 x3 T _ _ q hn b0 rfl a0 b1 rfl a1 b2 rfl a2 b3 rfl w0 b3 rfl w1 b3 rfl w2 t h)
                  (fun T t h => par_none_ok v0 v1 v2 s x0 x1 x2 x3 T _ _ q hn b0 rfl a0 b1 rfl a1 b2 rfl a2 b3 rfl w0 b3 rfl w1 b3 rfl w2 t h)
              | true =>
                have ht : tabN x3 = 2 := by unfold tabN; rw [w1, w2]; rfl
                rw [ht]
                match r, hlen, q, hn, b0, b1, b2, b3, hsm with
                | [], _, q, hn, b0, b1, b2, b3, _ =>
                  exact fin_of (by omega) (by omega) (fun t => par_seed0_bad v0 v1 v2 s x0 x1 x2 x3 _ _ q hn b0 rfl a0 b1 rfl a1 b2 rfl a2 b3 rfl w0 b3 rfl w1 b3 rfl w2 rfl t)
                    (fun T t h => par_seed0_ne v0 v1 v2 s x0 x1 x2 x3 T _ _ q hn b0 rfl a0 b1 rfl a1 b2 rfl a2 b3 rfl w0 b3 rfl w1 b3 rfl w2 rfl t h)
                    (fun T t h => par_seed0_ok v0 v1 v2 s x0 x1 x2 x3 T _ _ q hn b0 rfl a0 b1 rfl a1 b2 rfl a2 b3 rfl w0 b3 rfl w1 b3 rfl w2 rfl t h)
                | x4 :: r', hlen, q, hn, b0, b1, b2, b3, hsm =>
                  have z4 := hsm x4 (by simp)
                  have a4 := ovP_50 x4 (by omega) 0
                  have hl4 : ((x0 :: x1 :: x2 :: x3 :: x4 :: r').length : Int) = r'.length + 5 := by simp only [List.length_cons]; omega
                  have b4 : (0 : Int) ≤ 4 ∧ (4 : Int) < ((x0 :: x1 :: x2 :: x3 :: x4 :: r').length : Int) := by rw [hl4]; omega
                  have hg : decide (((x0 :: x1 :: x2 :: x3 :: x4 :: r').length : Int) > 4) = true := decide_eq_true (by rw [hl4]; omega)
                  unfold puV at a4
                  show Pure Tryz.prog 9 tabs 18 [.string s] (match Lib.parseUintB 64 x4.data.toList with
                    | .ok u => finV s v0 v1 v2 2 (u : Nat)
                    | _ => e8)
                  cases h4 : Lib.parseUintB 64 x4.data.toList with
                  | «syntax» => rw [h4] at a4; exact par_seedE v0 v1 v2 _ s x0 x1 x2 x3 x4 _ _ q hn b0 rfl a0 b1 rfl a1 b2 rfl a2 b3 rfl w0 b3 rfl w1 b3 rfl w2 hg b4 rfl a4
                  | range => rw [h4] at a4; exact par_seedE v0 v1 v2 _ s x0 x1 x2 x3 x4 _ _ q hn b0 rfl a0 b1 rfl a1 b2 rfl a2 b3 rfl w0 b3 rfl w1 b3 rfl w2 hg b4 rfl a4
                  | ok u =>
                    rw [h4] at a4
                    have hu : (u : Int) < 18446744073709551616 := by
                      have := puB_lt h4
                      omega
                    exact fin_of (by omega) hu (fun t => par_seed_bad v0 v1 v2 u s x0 x1 x2 x3 x4 _ _ q hn b0 rfl a0 b1 rfl a1 b2 rfl a2 b3 rfl w0 b3 rfl w1 b3 rfl w2 hg b4 rfl a4 t)
                      (fun T t h => par_seed_ne v0 v1 v2 u s x0 x1 x2 x3 x4 T _ _ q hn b0 rfl a0 b1 rfl a1 b2 rfl a2 b3 rfl w0 b3 rfl w1 b3 rfl w2 hg b4 rfl a4 t h)
                      (fun T t h => par_seed_ok v0 v1 v2 u s x0 x1 x2 x3 x4 T _ _ q hn b0 rfl a0 b1 rfl a1 b2 rfl a2 b3 rfl w0 b3 rfl w1 b3 rfl w2 hg b4 rfl a4 t h)

end Go.Proofs.YtcjjlajpbakaoaaGreatDoor
