/-
  SUPERBLOCK (chapter 36): the document's Encode.
-/
import Derived.Test.YtcjjlajpbakaoaaGreatDoorD36ar
namespace Go.Proofs.YtcjjlajpbakaoaaGreatDoor
open Go.Va

def mk4 : List Value := [.int .u8 84, .int .u8 69, .int .u8 77, .int .u8 80]
def b0 (d : Int) : List Value := [.int .u8 (IntKind.u8.wrap d)]
theorem encR_raw (e a b c d s : Int) (c1 c2 c3 c5 c6 c7 : List Value) (h1 : decide (e < 1) = false) (h2 : decide (e > 1099511627776) = false) (h3 : ((bif chk a b c d s then (0 : Int) else 2) != 0) = false)
    (a1 : ∀ σ, (envT rE).ov 58 [.int .u64 (u64w a), .int .i64 4] 0 σ = some (L c1 4 1 0, σ))
    (a2 : ∀ σ, (envT rE).ov 58 [.int .u64 (u64w b), .int .i64 4] 0 σ = some (L c2 4 1 0, σ))
    (a3 : ∀ σ, (envT rE).ov 58 [.int .u64 (u64w c), .int .i64 4] 0 σ = some (L c3 4 1 0, σ))
    (a5 : ∀ σ, (envT rE).ov 58 [.int .u64 s, .int .i64 8] 0 σ = some (L c5 8 1 0, σ))
    (a6 : ∀ σ, (envT rE).ov 60 [L (((((mk4 ++ c1) ++ c2) ++ c3) ++ b0 d) ++ c5) 25 1 13] 12 σ = some (L c6 29 1 0, σ))
    (a7 : ∀ σ, (envT rE).ov 59 [.int .i64 e, L c6 29 1 0] 12 σ = some (.tuple #[L c7 128 1 0, .int .i64 0], σ)) (hv : PF (L c7 128 1 0)) :
    Pure Tryz.prog 9 tabs 23 [sup e a b c d s] (.tuple #[L c7 128 1 0, .int .i64 0]) :=
  pureT rE_ok (n := 2000) (v := .tuple #[L c7 128 1 0, .int .i64 0]) [(6, .br false), (4, .br false), (5, .br false), (9, .ov (L c1 4 1 0)), (6, .ov (L c2 4 1 0)), (0, .ok), (5, .ov (L c3 4 1 0)), (0, .ok), (6, .ok), (4, .ov (L c5 8 1 0)), (0, .ok), (4, .ov (L c6 29 1 0)), (0, .ov (.tuple #[L c7 128 1 0, .int .i64 0]))]
    [decide (e < 1) = false, decide (e > 1099511627776) = false, ((bif chk a b c d s then (0 : Int) else 2) != 0) = false,
      ∀ σ, (envT rE).ov 58 [.int .u64 (u64w a), .int .i64 4] 0 σ = some (L c1 4 1 0, σ),
      ∀ σ, (envT rE).ov 58 [.int .u64 (u64w b), .int .i64 4] 0 σ = some (L c2 4 1 0, σ), (mk4 ++ c1).length = (mk4 ++ c1).length ∧ (4 + 4 + 4) * 1 ≤ 70368744177664,
      ∀ σ, (envT rE).ov 58 [.int .u64 (u64w c), .int .i64 4] 0 σ = some (L c3 4 1 0, σ), ((mk4 ++ c1) ++ c2).length = ((mk4 ++ c1) ++ c2).length ∧ (4 + 4 + 4 + 4) * 1 ≤ 70368744177664,
      (((mk4 ++ c1) ++ c2) ++ c3).length = (((mk4 ++ c1) ++ c2) ++ c3).length ∧ (4 + 4 + 4 + 4 + 1) * 1 ≤ 70368744177664,
      ∀ σ, (envT rE).ov 58 [.int .u64 s, .int .i64 8] 0 σ = some (L c5 8 1 0, σ), ((((mk4 ++ c1) ++ c2) ++ c3) ++ b0 d).length = ((((mk4 ++ c1) ++ c2) ++ c3) ++ b0 d).length ∧ (4 + 4 + 4 + 4 + 1 + 8) * 1 ≤ 70368744177664,
      ∀ σ, (envT rE).ov 60 [L (((((mk4 ++ c1) ++ c2) ++ c3) ++ b0 d) ++ c5) 25 1 13] 12 σ = some (L c6 29 1 0, σ),
      ∀ σ, (envT rE).ov 59 [.int .i64 e, L c6 29 1 0] 12 σ = some (.tuple #[L c7 128 1 0, .int .i64 0], σ)]
    (by kernel_rfl) ⟨h1, h2, h3, a1, a2, ⟨rfl, by omega⟩, a3, ⟨rfl, by omega⟩, ⟨rfl, by omega⟩, a5, ⟨rfl, by omega⟩, a6, a7⟩ rfl (PF_pair hv (.int _ _))
theorem ovE_58 (n : Nat) (w : Nat) (hw : w = 4 ∨ w = 8) (lim : Nat) (σ : AS) : (envT rE).ov 58 [.int .u64 (n : Int), .int .i64 (w : Int)] lim σ = some (L (bys (if w = 4 then be4 n else be8 n)) w 1 0, σ) := by
  refine envK rfl rfl (show _ = [Value.int .u64 (n : Int), .int .i64 (w : Int)] from rfl) rfl ?_
  unfold rE
  rw [pfT_ne rfl, pfT_eq]
  show (bif decide (0 ≤ (n : Int)) then (bif decide ((w : Int) = 4) then some (L (bys (be4 (n : Int).toNat)) 4 1 0) else bif decide ((w : Int) = 8) then some (L (bys (be8 (n : Int).toNat)) 8 1 0) else none) else none) = _
  rw [decide_eq_true (show 0 ≤ (n : Int) by omega), Int.toNat_natCast]
  rcases hw with rfl | rfl <;> rfl
theorem bys_app (l m : List UInt8) : bys l ++ bys m = bys (l ++ m) := by unfold bys; simp
theorem b0_nat (d : Nat) : b0 (d : Int) = bys (be1 d) := by
  unfold b0 bys be1
  simp only [List.map_cons, List.map_nil]
  rw [wrap8, byt_toNat]
  simp
theorem p23_yes (e a b c d s : Nat) (h1 : 1 ≤ e) (h2 : e ≤ 1099511627776) (hc : chk a b c d s = true) (ha : a < 4294967296) (hb : b < 4294967296) (hcc : c < 4294967296) (hs : s < 18446744073709551616) :
    Pure Tryz.prog 9 tabs 23 [sup e a b c d s] (.tuple #[L (bys (encL e a b c d s)) 128 1 0, .int .i64 0]) := by
  have hw : ∀ n : Nat, n < 18446744073709551616 → u64w (n : Int) = n := fun n hn => wrap_fits .u64 (by show (0 : Int) ≤ n; omega) (by show (n : Int) ≤ 18446744073709551615; omega)
  have hd : ((((mk4 ++ bys (be4 a)) ++ bys (be4 b)) ++ bys (be4 c)) ++ b0 d) ++ bys (be8 s) = bys (dataL a b c d s) := by
    rw [show mk4 = bys mark from rfl, b0_nat, bys_app, bys_app, bys_app, bys_app, bys_app]
    rfl
  have hdl : (dataL a b c d s).length = 25 := by simp [dataL, mark, be4, be1, be8]
  have hsl : (sealL (dataL a b c d s)).length = 29 := by simp [sealL, dataL, mark, be4, be1, be8]
  refine encR_raw e a b c d s (bys (be4 a)) (bys (be4 b)) (bys (be4 c)) (bys (be8 s)) (bys (sealL (dataL a b c d s))) (bys (encL e a b c d s))
    (decide_eq_false (by omega)) (decide_eq_false (by omega)) (by rw [hc]; rfl) (fun σ => ?_) (fun σ => ?_) (fun σ => ?_) (fun σ => ?_) (fun σ => ?_) (fun σ => ?_) (PF_list (by omega) (bys_PF _))
  · rw [hw a (by omega)]; exact ovE_58 a 4 (.inl rfl) 0 σ
  · rw [hw b (by omega)]; exact ovE_58 b 4 (.inl rfl) 0 σ
  · rw [hw c (by omega)]; exact ovE_58 c 4 (.inl rfl) 0 σ
  · exact ovE_58 s 8 (.inr rfl) 0 σ
  · rw [hd]
    refine envK rfl rfl (show [strip (L (bys (dataL a b c d s)) 25 1 13)] = [L (bys (dataL a b c d s)) (dataL a b c d s).length 1 0] by rw [hdl]; rfl) ?_ ?_
    · show (flatB 100 (L (bys (dataL a b c d s)) (dataL a b c d s).length 1 0) && true) = true
      rw [flat_L (by omega)]; rfl
    · show k60 [L (bys (dataL a b c d s)) (dataL a b c d s).length 1 0] = _
      unfold k60
      dsimp only
      rw [asL_L', asB_L (by omega) (by omega)]
      dsimp only
      rw [hdl]
      rfl
  · refine envK rfl rfl (show _ = [Value.int .i64 (e : Int), L (bys (sealL (dataL a b c d s))) (sealL (dataL a b c d s)).length 1 0] by rw [hsl]; rfl) ?_ ?_
    · show (flatB 100 (.int .i64 (e : Int)) && (flatB 100 (L (bys (sealL (dataL a b c d s))) (sealL (dataL a b c d s)).length 1 0) && true)) = true
      rw [flat_L (by omega)]; rfl
    · show k59 [.int .i64 (e : Int), L (bys (sealL (dataL a b c d s))) (sealL (dataL a b c d s)).length 1 0] = _
      unfold k59
      dsimp only
      rw [asL_L', asB_L (by omega) (by omega)]
      dsimp only
      rw [decide_eq_true (show (1 : Int) ≤ (e : Int) by omega), decide_eq_true (show (e : Int) ≤ 1099511627776 by omega), hsl, Int.toNat_natCast]
      rfl
theorem p23_no (e a b c d s : Int) (h : vld e a b c d s = false) : Pure Tryz.prog 9 tabs 23 [sup e a b c d s] (.tuple #[.slice none 0 0, .int .i64 2]) := by
  cases h1 : decide (e < 1) with
  | true =>
    exact pureT rE_ok (n := 2000) (v := .tuple #[.slice none 0 0, .int .i64 2]) [(6, .br true)] [decide (e < 1) = true] (by kernel_rfl) h1 rfl (plain_PF 100 _ rfl)
  | false =>
    cases h2 : decide (e > 1099511627776) with
    | true => exact pureT rE_ok (n := 2000) (v := .tuple #[.slice none 0 0, .int .i64 2]) [(6, .br false), (4, .br true)] [decide (e < 1) = false, decide (e > 1099511627776) = true] (by kernel_rfl) ⟨h1, h2⟩ rfl (plain_PF 100 _ rfl)
    | false =>
      have h3 : chk a b c d s = false := by
        unfold vld at h
        rw [decide_eq_true (show e ≥ 1 by have := of_decide_eq_false h1; omega), decide_eq_true (show e ≤ 1099511627776 by have := of_decide_eq_false h2; omega)] at h
        exact h
      exact pureT rE_ok (n := 2000) (v := .tuple #[.slice none 0 0, .int .i64 2]) [(6, .br false), (4, .br false), (5, .br true)] [decide (e < 1) = false, decide (e > 1099511627776) = false, ((bif chk a b c d s then (0 : Int) else 2) != 0) = true] (by kernel_rfl) ⟨h1, h2, by rw [h3]; rfl⟩ rfl (plain_PF 100 _ rfl)
def encR (e a b c d s : Int) : Value := bif vld e a b c d s then .tuple #[L (bys (encL e.toNat a.toNat b.toNat c.toNat d.toNat s.toNat)) 128 1 0, .int .i64 0] else .tuple #[.slice none 0 0, .int .i64 2]
theorem p23 (e a b c d s : Int) (s0 : 0 ≤ s) (s1 : s < 18446744073709551616) : Pure Tryz.prog 9 tabs 23 [sup e a b c d s] (encR e a b c d s) := by
  unfold encR
  cases h : vld e a b c d s with
  | false => exact p23_no e a b c d s h
  | true =>
    rw [cond_true]
    unfold vld at h
    simp only [Bool.and_eq_true, decide_eq_true_eq] at h
    obtain ⟨⟨h1, h2⟩, h3⟩ := h
    obtain ⟨k1, k2, k3, k4, k5, k6, k7, k8, _⟩ := chk_spec h3
    obtain ⟨e', rfl⟩ := Int.eq_ofNat_of_zero_le (show 0 ≤ e by omega)
    obtain ⟨a', rfl⟩ := Int.eq_ofNat_of_zero_le (show 0 ≤ a by omega)
    obtain ⟨b', rfl⟩ := Int.eq_ofNat_of_zero_le (show 0 ≤ b by omega)
    obtain ⟨c', rfl⟩ := Int.eq_ofNat_of_zero_le (show 0 ≤ c by omega)
    obtain ⟨d', rfl⟩ := Int.eq_ofNat_of_zero_le (show 0 ≤ d by omega)
    obtain ⟨s', rfl⟩ := Int.eq_ofNat_of_zero_le s0
    simp only [Int.toNat_natCast]
    exact p23_yes e' a' b' c' d' s' (by omega) (by omega) h3 (by omega) (by omega) (by omega) (by omega)
def k23 : List Value → Option Value
  | [.agg ⟨[.int .i64 e, .int .i64 a, .int .i64 b, .int .i64 c, .int .i64 d, .int .u64 s]⟩] => bif decide (0 ≤ s) && decide (s < 18446744073709551616) then some (encR e a b c d s) else none
  | _ => none
theorem k23_ok : KOk Tryz.prog 9 tabs 23 k23 := by
  intro args v h
  unfold k23 at h
  split at h
  · rename_i e a b c d s
    cases hb : (decide (0 ≤ s) && decide (s < 18446744073709551616)) with
    | false => rw [hb] at h; cases h
    | true =>
      rw [hb, cond_true] at h
      cases h
      simp only [Bool.and_eq_true, decide_eq_true_eq] at hb
      exact p23 e a b c d s hb.1 hb.2
  · cases h

end Go.Proofs.YtcjjlajpbakaoaaGreatDoor
